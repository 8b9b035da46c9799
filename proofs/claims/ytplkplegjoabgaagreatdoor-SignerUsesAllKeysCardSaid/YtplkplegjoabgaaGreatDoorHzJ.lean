/-
  Several texts in one file: each has its own heading below.
-/
import Derived.Test.YtplkplegjoabgaaGreatDoorHzA
import Derived.Deep.RegionHeld
import Derived.Test.YtplkplegjoabgaaGreatDoorHzH
import Derived.Test.YtplkplegjoabgaaGreatDoorHzE
import Derived.Test.YtplkplegjoabgaaGreatDoorHzI
import Derived.Test.YtplkplegjoabgaaGreatDoorHzF
import Derived.Deep.RegionHeld3


namespace Go.Proofs.YtplkplegjoabgaaGreatDoor
open Go.RowKit
section
variable {P : Program} {ops : Array Oper} {Q : Exit → Act → World → Prop} {md : Region.Mode} {k : Nat} {C : World → Prop}
def wpAnyK (P : Program) (md : Region.Mode) (ops : Array Oper) (Q : Exit → Act → World → Prop) (k : Nat) (C : World → Prop) : Nat → Array Bool → Act → World → Prop
  | 0, l, a, w => Region.ready md ops l = [] ∧ Q .normal a w
  | f + 1, l, a, w => (Region.ready md ops l = [] → Q .normal a w) ∧
    ∀ i ∈ Region.ready md ops l, wpOp P ops Q i (fun a' w' => ((l.setIfInBounds i true).getD k true = false → C w') ∧ wpAnyK P md ops Q k C f (l.setIfInBounds i true) a' w') a w
theorem wpAny_of_key : ∀ (f : Nat) (l : Array Bool) (a : Act) (w : World), wpAnyK P md ops Q k C f l a w → wpAny P md ops Q f l a w
  | 0, _, _, _, h => h
  | f + 1, _, _, _, h => ⟨h.1, fun i hi => wpOp_mono (fun a' w' h' => wpAny_of_key f _ a' w' h'.2) (h.2 i hi)⟩
def waitsB (md : Region.Mode) (ops : Array Oper) (k i : Nat) : Bool := match ops[k]? with
  | some o => o.after.any fun e => Region.binds md e && e.on == i
  | none => false
theorem ready_ne {l : Array Bool} {i j : Nat} (hi : i ∈ Region.ready md ops l) (hj : j ∈ Region.ready md ops l) (hk : waitsB md ops k i = true) : j ≠ k := by
  rintro rfl
  obtain ⟨_, o, ho, hall⟩ := mem_ready.1 hj
  unfold waitsB at hk
  rw [ho] at hk
  obtain ⟨e, he, h2⟩ := Array.any_eq_true'.1 hk
  rw [Bool.and_eq_true, beq_iff_eq] at h2
  have h1 := hall e he h2.1
  have h0 := (mem_ready.1 hi).1
  rw [h2.2] at h1
  rcases Nat.lt_or_ge i l.size with h' | h'
  · simp [h'] at h0 h1; rw [h0] at h1; cases h1
  · simp [Array.getElem?_eq_none h'] at h1
theorem getD_set_ne' {l : Array Bool} {i j : Nat} (d : Bool) (h : i ≠ j) : (l.setIfInBounds i true).getD j d = l.getD j d := by
  simp [Array.getD_eq_getD_getElem?, Array.getElem?_setIfInBounds_ne h]
theorem wpAnyK_first {i : Nat} {oi : Oper} {v : Value} (hi : ops[i]? = some oi) (hsel : ∀ (j : Nat) (o : Oper) cs b, ops[j]? = some o → o.op ≠ .select cs b)
    (hQ : ∀ c a w, Q (.panic c) (a.put oi.dst v) w → Q (.panic c) a w) (hki : waitsB md ops k i = true) :
    ∀ (f : Nat) (l : Array Bool) (a : Act) (w : World),
      (∀ j oj, ops[j]? = some oj → j ≠ i → l.getD j true = false → (∀ e ∈ oj.after, Region.binds md e = true → e.on ≠ i) → oi.apart ops oj = true) →
      i ∈ Region.ready md ops l → l.getD k true = false → i ≠ k → YieldsIf P ops C oi v a → C w →
      wpAnyK P md ops Q k C f (l.setIfInBounds i true) (a.put oi.dst v) w → wpAnyK P md ops Q k C (f + 1) l a w := by
  intro f
  induction f with
  | zero =>
    intro l a w _ hr _ _ hy hC H
    refine ⟨fun h => (by rw [h] at hr; cases hr), fun j hj => ?_⟩
    by_cases hji : j = i
    · subst hji; exact hy.wpOp hi hC ⟨fun _ => hC, H⟩
    · have := ready_mono hj hji
      rw [H.1] at this
      cases this
  | succ f ih =>
    intro l a w hfree hr hkl hik hy hC H
    refine ⟨fun h => (by rw [h] at hr; cases hr), fun j hj => ?_⟩
    by_cases hji : j = i
    · subst hji; exact hy.wpOp hi hC ⟨fun _ => hC, H⟩
    · have hjk : j ≠ k := ready_ne hr hj hki
      have h1 := H.2 j (ready_mono hj hji)
      obtain ⟨hjun, oj, hoj, hall⟩ := mem_ready.1 hj
      have hnot : ∀ e ∈ oj.after, Region.binds md e = true → e.on ≠ i := fun e he hb heq => by
        have h1 := hall e he hb
        have h0 := (mem_ready.1 hr).1
        rw [heq] at h1
        rcases Nat.lt_or_ge i l.size with h' | h'
        · simp [h'] at h0 h1; rw [h0] at h1; cases h1
        · simp [Array.getElem?_eq_none h'] at h1
      have h2 := wpOp_putIf hoj (hfree j oj hoj hji hjun hnot) (fun cs b => hsel i oi cs b hi) (fun cs b => hsel j oj cs b hoj) hQ hy h1
      have hfree' : ∀ m om, ops[m]? = some om → m ≠ i → (l.setIfInBounds j true).getD m true = false →
          (∀ e ∈ om.after, Region.binds md e = true → e.on ≠ i) → oi.apart ops om = true := fun m om hm hmi hun hno => by
        refine hfree m om hm hmi ?_ hno
        by_cases hjm : j = m
        · subst hjm; exact hjun
        · rw [getD_set_ne' true hjm] at hun; exact hun
      have hkl' : (l.setIfInBounds j true).getD k true = false := by rw [getD_set_ne' true hjk]; exact hkl
      refine wpOp_mono (fun a' w' h3 => ?_) h2
      have hC' : C w' := h3.2.1 (by rw [getD_set_ne' true hjk, getD_set_ne' true hik]; exact hkl)
      refine ⟨fun _ => hC', ih (l.setIfInBounds j true) a' w' hfree' (ready_mono hr (Ne.symm hji)) hkl' hik h3.1 hC' ?_⟩
      rw [Array.setIfInBounds_comm _ _ hji]
      exact h3.2.2
theorem wpAnyK_take {i : Nat} {oi : Oper} {v : Value} {f : Nat} {l : Array Bool} {a : Act} {w : World} (hi : ops[i]? = some oi)
    (hs : Region.noSelect ops = true) (hf : Region.free md ops l i = true) (hr : (Region.ready md ops l).contains i = true) (hki : waitsB md ops k i = true) (hkl : (!l.getD k true && i != k) = true)
    (hQ : ∀ c a w, Q (.panic c) (a.put oi.dst v) w → Q (.panic c) a w) (hy : YieldsIf P ops C oi v a) (hC : C w)
    (h : wpAnyK P md ops Q k C f (l.setIfInBounds i true) (a.put oi.dst v) w) : wpAnyK P md ops Q k C (f + 1) l a w := by
  rw [Bool.and_eq_true, Bool.not_eq_true', bne_iff_ne] at hkl
  exact wpAnyK_first hi (Region.noSelect_spec hs) hQ hki f l a w (Region.free_spec hi hf) (by simpa using hr) hkl.1 hkl.2 hy hC h
theorem wpAnyK_firstF {i : Nat} {oi : Oper} {v : Value} (hi : ops[i]? = some oi) (hsel : ∀ (j : Nat) (o : Oper) cs b, ops[j]? = some o → o.op ≠ .select cs b)
    (hQ : ∀ c a w, Q (.panic c) (a.put oi.dst v) w → Q (.panic c) a w) (hik : i ≠ k) :
    ∀ (f : Nat) (l : Array Bool) (a : Act) (w : World),
      (∀ j oj, ops[j]? = some oj → j ≠ i → l.getD j true = false → (∀ e ∈ oj.after, Region.binds md e = true → e.on ≠ i) → oi.apart ops oj = true) →
      i ∈ Region.ready md ops l → YieldsIf P ops (fun _ => True) oi v a → (l.getD k true = false → C w) →
      wpAnyK P md ops Q k C f (l.setIfInBounds i true) (a.put oi.dst v) w → wpAnyK P md ops Q k C (f + 1) l a w := by
  intro f
  induction f with
  | zero =>
    intro l a w _ hr hy hC H
    refine ⟨fun h => (by rw [h] at hr; cases hr), fun j hj => ?_⟩
    by_cases hji : j = i
    · subst hji; exact hy.wpOp hi trivial ⟨fun h => hC (by rw [getD_set_ne' true hik] at h; exact h), H⟩
    · have := ready_mono hj hji
      rw [H.1] at this
      cases this
  | succ f ih =>
    intro l a w hfree hr hy hC H
    refine ⟨fun h => (by rw [h] at hr; cases hr), fun j hj => ?_⟩
    by_cases hji : j = i
    · subst hji; exact hy.wpOp hi trivial ⟨fun h => hC (by rw [getD_set_ne' true hik] at h; exact h), H⟩
    · have h1 := H.2 j (ready_mono hj hji)
      obtain ⟨hjun, oj, hoj, hall⟩ := mem_ready.1 hj
      have hnot : ∀ e ∈ oj.after, Region.binds md e = true → e.on ≠ i := fun e he hb heq => by
        have h1 := hall e he hb
        have h0 := (mem_ready.1 hr).1
        rw [heq] at h1
        rcases Nat.lt_or_ge i l.size with h' | h'
        · simp [h'] at h0 h1; rw [h0] at h1; cases h1
        · simp [Array.getElem?_eq_none h'] at h1
      have h2 := wpOp_putIf hoj (hfree j oj hoj hji hjun hnot) (fun cs b => hsel i oi cs b hi) (fun cs b => hsel j oj cs b hoj) hQ hy h1
      have hfree' : ∀ m om, ops[m]? = some om → m ≠ i → (l.setIfInBounds j true).getD m true = false →
          (∀ e ∈ om.after, Region.binds md e = true → e.on ≠ i) → oi.apart ops om = true := fun m om hm hmi hun hno => by
        refine hfree m om hm hmi ?_ hno
        by_cases hjm : j = m
        · subst hjm; exact hjun
        · rw [getD_set_ne' true hjm] at hun; exact hun
      refine wpOp_mono (fun a' w' h3 => ?_) h2
      have hC' : (l.setIfInBounds j true).getD k true = false → C w' := fun h => h3.2.1 (by
        rw [Array.setIfInBounds_comm _ _ (Ne.symm hji), getD_set_ne' true hik]; exact h)
      refine ⟨hC', ih (l.setIfInBounds j true) a' w' hfree' (ready_mono hr (Ne.symm hji)) h3.1 hC' ?_⟩
      rw [Array.setIfInBounds_comm _ _ hji]
      exact h3.2.2
theorem wpAnyK_takeF {i : Nat} {oi : Oper} {v : Value} {f : Nat} {l : Array Bool} {a : Act} {w : World} (hi : ops[i]? = some oi)
    (hs : Region.noSelect ops = true) (hf : Region.free md ops l i = true) (hr : (Region.ready md ops l).contains i = true) (hik : (i != k) = true)
    (hQ : ∀ c a w, Q (.panic c) (a.put oi.dst v) w → Q (.panic c) a w) (hy : YieldsIf P ops (fun _ => True) oi v a) (hC : C w)
    (h : wpAnyK P md ops Q k C f (l.setIfInBounds i true) (a.put oi.dst v) w) : wpAnyK P md ops Q k C (f + 1) l a w :=
  wpAnyK_firstF hi (Region.noSelect_spec hs) hQ (bne_iff_ne.1 hik) f l a w (Region.free_spec hi hf) (by simpa using hr) hy (fun _ => hC) h
def AllReadyK (P : Program) (md : Region.Mode) (ops : Array Oper) (Q : Exit → Act → World → Prop) (k : Nat) (C : World → Prop) (f : Nat) (l : Array Bool) (a : Act) (w : World) (rs : List Nat) : Prop :=
  ∀ i ∈ rs, wpOp P ops Q i (fun a' w' => ((l.setIfInBounds i true).getD k true = false → C w') ∧ wpAnyK P md ops Q k C f (l.setIfInBounds i true) a' w') a w
theorem AllReadyK.nil {f : Nat} {l : Array Bool} {a : Act} {w : World} : AllReadyK P md ops Q k C f l a w [] := fun _ h => by cases h
theorem AllReadyK.cons {f : Nat} {l : Array Bool} {a : Act} {w : World} {i : Nat} {o : Oper} {rs : List Nat} (ho : ops[i]? = some o)
    (h : ∀ K' : Act → World → Prop, Shut (∀ a w, C w → (C w → wpAnyK P md ops Q k C f (l.setIfInBounds i true) a w) → K' a w) → if Region.wanted o (yielded ops a.tmps) = true then Oper.wp P o a w K' Q else K' (a.put o.dst undef) w)
    (hs : AllReadyK P md ops Q k C f l a w rs) : AllReadyK P md ops Q k C f l a w (i :: rs) := fun j hj => by
  rcases List.mem_cons.1 hj with rfl | hj
  · exact wpOp_step ho (fun K' hK => h K' (fun a w hS hW => hK a w ⟨fun _ => hS, hW hS⟩))
  · exact hs j hj
theorem AllReadyK.key {f : Nat} {l : Array Bool} {a : Act} {w : World} {i : Nat} {o : Oper} (hk : (l.setIfInBounds i true).getD k true = true) (ho : ops[i]? = some o)
    (h : ∀ K' : Act → World → Prop, Shut (∀ a w, True → (True → wpAnyK P md ops Q k C f (l.setIfInBounds i true) a w) → K' a w) → if Region.wanted o (yielded ops a.tmps) = true then Oper.wp P o a w K' Q else K' (a.put o.dst undef) w) : AllReadyK P md ops Q k C f l a w [i] := fun j hj => by
  rcases List.mem_cons.1 hj with rfl | hj
  · exact wpOp_step ho (fun K' hK => h K' (fun a w hS hW => hK a w ⟨(by rw [hk]; intro h; cases h), hW hS⟩))
  · cases hj
theorem wpAnyK_ready {rs : List Nat} {f : Nat} {l : Array Bool} {a : Act} {w : World} (hr : Region.ready md ops l = rs) (hne : rs ≠ [])
    (h : AllReadyK P md ops Q k C f l a w rs) : wpAnyK P md ops Q k C (f + 1) l a w :=
  ⟨fun h0 => absurd (hr ▸ h0) hne, hr ▸ h⟩
theorem wpAnyK_done {l : Array Bool} {a : Act} {w : World} (hr : Region.ready md ops l = []) (h : Q .normal a w) : ∀ f, wpAnyK P md ops Q k C f l a w
  | 0 => ⟨hr, h⟩
  | _ + 1 => ⟨fun _ => h, by rw [hr]; simp⟩
theorem wp_region_key (k : Nat) (C : World → Prop) {id : Nat} {a : Act} {w : World} (hm : P.follows .mixedOrders = true) (hC : C w.drew)
    (h : C w.drew → wpAnyK P .any ops Q k C ops.size (Array.replicate ops.size false) a w.drew) : (Code.region id ops true).wp P Q a w :=
  wp_region_any hm (wpAny_of_key _ _ _ _ (h hC))
end
end Go.Proofs.YtplkplegjoabgaaGreatDoor


namespace Go.Proofs.YtplkplegjoabgaaGreatDoor
open Go.RowKit
theorem prove_le : ∀ (n : Nat) (l : List (List UInt8)) (i : Nat), l.length ≤ n → (proveS l i).length ≤ l.length
  | 0, l, i, h => by rw [proveS_one l i (by omega)]; simp
  | n + 1, l, i, h => by
    by_cases h1 : l.length ≤ 1
    · rw [proveS_one l i h1]; simp
    · have hb := splitS_bounds l.length (by omega)
      by_cases hk : i < splitS l.length
      · have := prove_le n (l.take (splitS l.length)) i (by rw [List.length_take]; omega)
        rw [proveS_left l i (by omega) hk]
        rw [List.length_take] at this
        simp
        omega
      · have := prove_le n (l.drop (splitS l.length)) (i - splitS l.length) (by rw [List.length_drop]; omega)
        rw [proveS_right l i (by omega) hk]
        rw [List.length_drop] at this
        simp
        omega
end Go.Proofs.YtplkplegjoabgaaGreatDoor


namespace Go.Proofs.YtplkplegjoabgaaGreatDoor
open Go.RowKit
def okH (h : Int) : Prop := 0 ≤ h ∧ h ≤ 4
def leavesS (seed : List UInt8) (n : Nat) : List (List UInt8) := (List.range n).map fun (k : Nat) => publicS seed (k : Int)
theorem leavesS_length (seed : List UInt8) (n : Nat) : (leavesS seed n).length = n := by unfold leavesS; simp
theorem leavesS_step (seed : List UInt8) (n : Nat) : leavesS seed (n + 1) = leavesS seed n ++ [publicS seed (n : Int)] := by unfold leavesS; rw [List.range_succ, List.map_append]; rfl
theorem publicS_length (seed : List UInt8) (i : Int) : (publicS seed i).length = 16 := digestS_length _ _
theorem leavesS_get (seed : List UInt8) (n k : Nat) (h : k < n) : (leavesS seed n)[k]? = some (publicS seed (k : Int)) := by
  unfold leavesS
  rw [List.getElem?_map, List.getElem?_range h]
  rfl
theorem leavesS_16 (seed : List UInt8) (n : Nat) : D16 (leavesS seed n) := fun d hd => by
  unfold leavesS at hd
  obtain ⟨k, _, rfl⟩ := List.mem_map.1 hd
  exact publicS_length _ _
theorem valid_yes (h : Int) (w : World) (hh : okH h) : Calls Tryz.prog 88 #[.int .i64 h] w fun e w' => e = .returned (.bool true) ∧ w = w' := by
  obtain ⟨h1, h2⟩ := hh
  go_enter Tryz.func88, Tryz.ntmps88
  go_wp2
  go_ret
  exact ⟨rfl, rfl⟩
theorem valid_no (h : Int) (w : World) (hh : ¬ okH h) : Calls Tryz.prog 88 #[.int .i64 h] w fun e w' => e = .returned (.bool false) ∧ w = w' := by
  unfold okH at hh
  by_cases h1 : 0 ≤ h
  · have h2 : ¬ h ≤ 4 := by omega
    clear hh
    go_enter Tryz.func88, Tryz.ntmps88
    go_wp2
    go_ret
    exact ⟨rfl, rfl⟩
  · clear hh
    go_enter Tryz.func88, Tryz.ntmps88
    go_wp2
    go_ret
    exact ⟨rfl, rfl⟩
theorem pow_five {P : Nat → Prop} (h : Nat) (hh : h ≤ 4) (h0 : P 0) (h1 : P 1) (h2 : P 2) (h3 : P 3) (h4 : P 4) : P h := by
  match h, hh with
  | 0, _ => exact h0
  | 1, _ => exact h1
  | 2, _ => exact h2
  | 3, _ => exact h3
  | 4, _ => exact h4
theorem shl_one (h : Nat) (hh : h ≤ 4) : wrap64 ((2 : Int) ^ h) = ((2 ^ h : Nat) : Int) :=
  pow_five (P := fun h => wrap64 ((2 : Int) ^ h) = ((2 ^ h : Nat) : Int)) h hh (by decide +kernel) (by decide +kernel) (by decide +kernel) (by decide +kernel) (by decide +kernel)
set_option maxRecDepth 100000 in
set_option maxHeartbeats 2000000 in
theorem keys_any (arr : Array Value) (h : Int) (w : World) :
    Calls Tryz.prog 121 #[.agg arr, .int .i64 h] w fun e w' => e = .returned (.func (.func 140) #[] #[.pointer (some ⟨w.heap.size + 1, 0, none⟩), .pointer (some ⟨w.heap.size, 0, none⟩)]) ∧
      (w.alloc (.cells arr 23)).alloc (.cells #[.int .i64 h] 3) = w' := by
  have hmf := mkfun
  go_enter Tryz.func121, Tryz.ntmps121
  go_wp2
  go_ret
  exact ⟨rfl, rfl⟩
theorem wpListIn_loadM {P : Program} {F : Fence} {n0 : Nat} {ops : Array Oper} {rest : List Oper} {o : Oper} {a : Act} {w : World} {Q : Exit → Act → World → Prop} (hgd : o.guard = none) {ty : TypeId} {x : Operand} (ho : o.op = .load ty x) {n : Nat} (W : Wide P ty n)
    {g off : Nat} (hx : a.eval x = .pointer (some ⟨g, off, none⟩)) {cs : List Value} (hB : w.rangeAt g off cs) (hn : cs.length = n) (h : wpListIn F n0 P ops Q rest (a.put o.dst (.agg cs.toArray)) w) : wpListIn F n0 P ops Q (o :: rest) a w :=
  wpListIn_plain hgd fun _ hK => by
    obtain ⟨d, hu, hd⟩ := W.und
    unfold Oper.wpIn
    refine ⟨by simp [Oper.about, ho], ?_⟩
    rw [Oper.semAt_plain F _ _ (by rw [ho]; intro c h; cases h)]
    unfold execOp
    have hr := run_loadVar_mid (P := P) w g off ty cs d hB hu hd (by rw [hn]; exact W.info)
    simp only [ho, hx, Instr.loadAt, Instr.sureAddr, Sem.run_bind, Sem.run_pure, Result.andThen_ok, hr]
    exact hK _ _ h
section
variable {P : Program} {F : Fence} {n0 : Nat}
theorem wpListIn_build1 {ops : Array Oper} {rest : List Oper} {o : Oper} {a : Act} {w : World} {Q : Exit → Act → World → Prop} (hgd : o.guard = none) {t e : TypeId} {size bytes : Nat} (T : SlTy P t e size bytes) (hsz : size ≤ 1000) {x : Operand} (ho : o.op = .buildSlice t 1 #[(0, x)]) {cs : Array Value} (hx : a.eval x = .agg cs) (hn : cs.size = size)
    (h : wpListIn F n0 P ops Q rest (a.put o.dst (.slice (some ⟨w.heap.size, 0, none⟩) 1 1)) (w.alloc (.cells cs e))) : wpListIn F n0 P ops Q (o :: rest) a w :=
  wpListIn_plain hgd fun _ hK => by
    obtain ⟨ht, ⟨i, z, hi, hz, hsize, _, hzs⟩, h0, _⟩ := T
    unfold Oper.wpIn
    refine ⟨by simp [Oper.about, ho], ?_⟩
    rw [Oper.semAt_plain F _ _ (by rw [ho]; intro c h; cases h)]
    unfold execOp
    have hfl : Instr.fill (fun i' => some (i' * i.size, i.size)) ((Array.range (1 * i.size)).map (z.cells[· % z.cells.size]!)) ((#[(0, x)] : Array (Nat × Operand)).map fun (i, x) => (i, a.eval x)).toList = some cs := by
      rw [hsize]
      have := fill_one ((Array.range (1 * size)).map (z.cells[· % z.cells.size]!)) cs size (by simp) hn
      simpa [hx] using this
    simp only [ho, Sem.run_bind, run_buildSlice w t e 1 _ cs i z ht hi hz (by rw [hsize]; omega) (by rw [hsize]; omega) hfl, Result.andThen_ok]
    exact hK _ _ h
theorem wpListIn_app {ops : Array Oper} {rest : List Oper} {o : Oper} {a : Act} {w : World} {Q : Exit → Act → World → Prop} (hgd : o.guard = none) {s x : Operand} {t : TypeId}
    (ho : o.op = .call { callee := .builtin .append, args := #[s, x], argTypes := #[t, t] })
    {B : Nat} {e : TypeId} {size bytes : Nat} (T : SlTy P t e size bytes) {v : Value} (hs : a.eval s = v) {n : Nat} {xs : List Value} (hown : w.ownsRow B e size v n xs)
    {u : Value} (hx : a.eval x = u) {m : Nat} {news : List Value} (hr : Reads w size u m news) (h1 : AllOne news) (hbytes : (n + m) * bytes ≤ 140737488355328) (hbase : B ≤ w.heap.size)
    (h : ∀ (A' : Option Addr) (c' : Nat) w', w'.ownsRow B e size (.slice A' (n + m) c') (n + m) (xs ++ news) → Chg (fun k => v.ownBlock = some k) w w' → wpListIn F n0 P ops Q rest (a.put o.dst (.slice A' (n + m) c')) w') : wpListIn F n0 P ops Q (o :: rest) a w :=
  wpListIn_plain hgd fun _ hK => by
    obtain ⟨v', w', hrun, h2, h3, _⟩ := run_app (P := P) (ty := o.type) T hown hr h1 hbytes hbase
    obtain ⟨A', c', rfl⟩ := own_slice h2
    unfold Oper.wpIn
    refine ⟨by simp [Oper.about, ho, resolve, Target.leads, Sem.run_pure], ?_⟩
    rw [Oper.semAt_plain F _ _ (by rw [ho]; intro c h; cases h)]
    simp [execOp, ho, resolve, invoke, builtin, hs, hx, hrun, Result.andThen]
    exact hK _ _ (h A' c' w' h2 h3)
end
attribute [local go_sem] Oper.semAt_some
set_option maxRecDepth 100000 in
set_option maxHeartbeats 4000000 in
theorem keys_stops (seed : List UInt8) (h n : Nat) (hn : n = 2 ^ h) (hh : h ≤ 4) (Bh Bs : Nat) (S : Nat → Prop) (w : World) (hv : seed.length = 16) (hM : ShaMem w) (hs1 : ¬ S 1) (hs2 : ¬ S 0) (_ : ¬ S Bh) (hs4 : ¬ S Bs)
    (h1 : w.cell? ⟨Bh, 0, none⟩ = some (.int .i64 (h : Int))) (h2 : Blk w Bs 23 (seed.map u8v).toArray) :
    SeqStopsK Fence.wide 2 Tryz.prog 140 #[.pointer (some ⟨Bh, 0, none⟩), .pointer (some ⟨Bs, 0, none⟩)] (fun x : Fin n => #[.agg ((publicS seed ((x.val : Nat) : Int)).map u8v).toArray]) (KeepC S) (fun ys => ys = List.finRange n) (fun _ => True) n w := by
  intro l J Jx W hW hJ hJx hY h0
  have hE := Ext.of_below hW
  have k1 := Ext.cellv hE h1
  have hn16 : n ≤ 16 := by subst hn; exact Nat.le_trans (Nat.pow_le_pow_right (by omega) hh) (by omega)
  have HI0 := hide (show ShaMem W ∧ W.rangeAt Bs 0 (seed.map u8v) from ⟨hM.ext hE, fun j v hj => Ext.cellv hE (by rw [Nat.zero_add, h2.cell]; simpa using hj)⟩)
  have HPb := hide (fun k (hk : k < n) W (hM : ShaMem W) => public_any seed ((k : Nat) : Int) W hM hv (by omega) (by omega))
  have HSL := hide (show (seed.map u8v).length = 16 from by simpa using hv)
  clear h1 h2 hM hE hW
  refine callsIn_wide.2 ?_
  have hsh : wrap64 ((2 : Int) ^ h) = (n : Int) := by rw [shl_one h hh, hn]
  clear hn hv
  go_enter Tryz.func140, Tryz.ntmps140
  go_wp2
  clear hsh
  go_loopw [7] (fun i wr => ∃ k : Nat, k ≤ n ∧ i = .int .i64 k ∧ Hid (J ((List.finRange n).take k) wr ∧ ShaMem wr ∧ wr.rangeAt Bs 0 (seed.map u8v))) (fun i _ => n - (intOf i).toNat)
  case atStart => exact ⟨0, Nat.zero_le _, rfl, hide ⟨h0, (unhide HI0).1, (unhide HI0).2⟩⟩
  case round =>
    obtain ⟨k, hk, rfl, HJ⟩ := hrel
    by_cases hlt : k < n
    · have HP := hide (unhide HPb k hlt wr (unhide HJ).2.1)
      have hltI : (k : Int) < (n : Int) := by omega
      have HY := hide (fun W (hE : Ext wr W) => hY ((List.finRange n).take k) ⟨k, hlt⟩ W (hJ _ _ W none (unhide HJ).1 (grown_of_ext hE) (fun r e => by cases e)) (by simp; omega))
      obtain ⟨arr, harr⟩ : ∃ x, (seed.map u8v).toArray = x := ⟨_, rfl⟩
      obtain ⟨pb, hpb⟩ : ∃ x, ((publicS seed ((k : Nat) : Int)).map u8v).toArray = x := ⟨_, rfl⟩
      rw [harr] at HP
      rw [hpb] at HP HY
      go_upto_region 3 with fail
      refine (wpIn_wide (n := 2)).1 ?_
      gi_wp2_with ((refine wpListIn_loadM (ty := 23) (x := .tmp 2) rfl rfl digest_wide rfl (unhide HJ).2.2 (unhide HSL) ?_; rw [harr]))
      refine ⟨trivial, ?_⟩
      refine (callsIn_wide.2 (unhide HP)).mono ?_
      rintro e w1 ⟨rfl, hE1⟩
      have H1 := hide hE1
      obtain ⟨fn, tmps, assign, body, hy, hR⟩ := unhide HY w1 hE1
      clear hE1
      try dsimp only at hy
      gi_wp2
      clear hy
      refine hR.mono ?_
      rintro e W3 (⟨rfl, hJ3, hk3⟩ | ⟨rfl, hJx3⟩)
      · have HJ4 := hide (show J ((List.finRange n).take (k + 1)) W3 ∧ ShaMem W3 ∧ W3.rangeAt Bs 0 (seed.map u8v) from
          ⟨by rw [fin_step n k hlt]; exact hJ3, ⟨fun j v hj => hk3 _ _ hs1 (((unhide HJ).2.1.ext (unhide H1)).k j v hj), fun j v hj => hk3 _ _ hs2 (((unhide HJ).2.1.ext (unhide H1)).h j v hj)⟩, fun j v hj => hk3 _ _ hs4 (Ext.cellv (unhide H1) ((unhide HJ).2.2 j v hj))⟩)
        clear hJ3 hk3
        gi_wp2
        go_wp2
        go_roundw
        case rel => exact ⟨k + 1, by omega, by go_num, HJ4⟩
        case measure => simp [intOf]; omega
      · gi_wp2
        go_wp2
        refine bodyPost_ret (results_none rfl _ _ _) rfl ?_
        exact ⟨⟨_, rfl⟩, .inr ⟨_, trivial, hJx3⟩⟩
    · obtain rfl : k = n := by omega
      go_wp2
      go_end0
      exact ⟨⟨_, rfl⟩, .inl ⟨_, rfl, by have := (unhide HJ).1; rwa [List.take_of_length_le (by simp)] at this⟩⟩
def LJ (seed : List UInt8) (B bo : Nat) {n : Nat} (pre : List (Fin n)) (W : World) : Prop := ∃ A c, Blk W bo 30 #[.slice A pre.length c] ∧ W.ownsRow B 23 16 (.slice A pre.length c) pre.length (dcells (pre.map fun x => publicS seed ((x.val : Nat) : Int)))
theorem LJ.keep {seed : List UInt8} {B bo n : Nat} {pre : List (Fin n)} {W W' : World} (h : LJ seed B bo pre W) (hk : KeepB W W') : LJ seed B bo pre W' := by
  obtain ⟨A, c, h1, h2⟩ := h
  exact ⟨A, c, hk.blk h1, hk.own' h2⟩
theorem fin_leaves (seed : List UInt8) (n : Nat) : (List.finRange n).map (fun x => publicS seed ((x.val : Nat) : Int)) = leavesS seed n := by
  unfold leavesS
  rw [← fin_map, List.map_map]
  rfl
set_option maxRecDepth 100000 in
set_option maxHeartbeats 8000000 in
theorem leaves_any (seed : List UInt8) (h n : Nat) (hn : n = 2 ^ h) (hh : h ≤ 4) (w : World) (hv : seed.length = 16) (hM : ShaMem w) :
    Calls Tryz.prog 90 #[.agg (seed.map u8v).toArray, .int .i64 (h : Int)] w fun e w' => ∃ A c, e = .returned (.slice A n c) ∧ GD w w.heap.size (.slice A n c) n (leavesS seed n) w' := by
  have hsl := hM.lt
  have hn16 : n ≤ 16 := by subst hn; exact Nat.le_trans (Nat.pow_le_pow_right (by omega) hh) (by omega)
  have HST := hide (fun W (hE : Ext w W) (h1 : W.cell? ⟨w.heap.size + 3, 0, none⟩ = some (.int .i64 (h : Int))) (h2 : Blk W (w.heap.size + 2) 23 (seed.map u8v).toArray) =>
    keys_stops seed h n hn hh (w.heap.size + 3) (w.heap.size + 2) (fun k => k = w.heap.size + 1 ∨ w.heap.size + 4 ≤ k) W hv (hM.ext hE) (by omega) (by omega) (by omega) (by omega) h1 h2)
  have HF := hide (fin_leaves seed n)
  have H16 := hide (leavesS_16 seed n)
  have HPL := hide (publicS_length seed)
  obtain ⟨arr, harr⟩ : ∃ x, (seed.map u8v).toArray = x := ⟨_, rfl⟩
  have HSZ := hide (show arr.size = 16 from by rw [← harr]; simpa using hv)
  rw [harr] at HST ⊢
  have HKy := hide (fun W => keys_any arr (h : Int) W)
  clear hM hsl hn hh harr hv
  refine (callsIn_wide (n := 3)).1 (callsIn_of_wp_marks Tryz.func90 rfl trivial ((wpIn_wide (n := 3)).2 ?_))
  simp only [Tryz.ntmps90, List.size_toArray, List.length_cons, List.length_nil, Nat.reduceAdd, Nat.reduceSub, Array.replicate_succ, Array.replicate_zero, List.push_toArray, List.append_toArray, List.nil_append, List.cons_append]
  go_wp2_with (first
    | (refine wpList_loadB (ty := 23) (t := 23) (x := .tmp 2) rfl rfl digest_wide rfl (cs := arr) ((Blk.new w _ _).alloc _) (unhide HSZ) ?_)
    | (go_at_call 121; refine (unhide HKy _).mono ?_; rintro e w1 ⟨rfl, rfl⟩))
  have HW := hide (show Ext w ((((w.alloc (.cells arr 23)).alloc (.cells #[.slice none 0 0] 30)).alloc (.cells arr 23)).alloc (.cells #[.int .i64 (h : Int)] 3)) ∧
      Blk ((((w.alloc (.cells arr 23)).alloc (.cells #[.slice none 0 0] 30)).alloc (.cells arr 23)).alloc (.cells #[.int .i64 (h : Int)] 3)) (w.heap.size + 1) 30 #[.slice none 0 0] ∧
      Blk ((((w.alloc (.cells arr 23)).alloc (.cells #[.slice none 0 0] 30)).alloc (.cells arr 23)).alloc (.cells #[.int .i64 (h : Int)] 3)) (w.heap.size + 2) 23 arr ∧
      ((((w.alloc (.cells arr 23)).alloc (.cells #[.slice none 0 0] 30)).alloc (.cells arr 23)).alloc (.cells #[.int .i64 (h : Int)] 3)).cell? ⟨w.heap.size + 3, 0, none⟩ = some (.int .i64 (h : Int)) ∧
      ((((w.alloc (.cells arr 23)).alloc (.cells #[.slice none 0 0] 30)).alloc (.cells arr 23)).alloc (.cells #[.int .i64 (h : Int)] 3)).heap.size = w.heap.size + 4 from
    ⟨((((Ext.refl w).alloc _).alloc _).alloc _).alloc _, ((Blk.new' _ _ _ (by simp)).alloc _).alloc _, (Blk.new' _ _ _ (by simp)).alloc _, new_cell _ _ _ (by simp) rfl, by simp⟩)
  generalize hW0 : ((((w.alloc (.cells arr 23)).alloc (.cells #[.slice none 0 0] 30)).alloc (.cells arr 23)).alloc (.cells #[.int .i64 (h : Int)] 3)) = W0 at *
  clear hW0
  refine wp_rangeH (gf := 140) (S := fun k => k = w.heap.size + 1 ∨ w.heap.size + 4 ≤ k) (all := List.finRange n) (N := n) (encs := fun x : Fin n => #[.agg ((publicS seed ((x.val : Nat) : Int)).map u8v).toArray]) rfl (call_enters Tryz.func140 (by kernel_rfl) rfl)
    (unhide HST W0 (unhide HW).1 (unhide HW).2.2.2.1 (unhide HW).2.2.1) (fun _ => rfl)
    (LJ seed (w.heap.size + 4) (w.heap.size + 1)) (fun _ _ _ h k => h.keep k) ⟨none, 0, (unhide HW).2.1, World.ownsRow_nil _ _ _ _⟩
    (fun x a' W => ∃ Bx, Blk W Bx 23 ((publicS seed ((x.val : Nat) : Int)).map u8v).toArray ∧ a' = { tmps := #[.agg arr, .int .i64 (h : Int), .pointer (some ⟨w.heap.size, 0, none⟩), undef, .slice none 0 0, .pointer (some ⟨w.heap.size + 1, 0, none⟩), .pointer (some ⟨Bx, 0, none⟩), .agg arr, .int .i64 (h : Int), .func (.func 140) #[] #[.pointer (some ⟨w.heap.size + 1 + 1 + 1, 0, none⟩), .pointer (some ⟨w.heap.size + 1 + 1, 0, none⟩)], .agg ((publicS seed ((x.val : Nat) : Int)).map u8v).toArray, undef, undef, undef, undef, undef], defers := [] })
    (fun x a' W W' h k => by obtain ⟨Bx, h1, h2⟩ := h; exact ⟨Bx, k.blk h1, h2⟩) ?assign ?body ?done
  case assign =>
    intro l pre x W K hc hj hK
    have HPx := hide (show ((publicS seed ((x.val : Nat) : Int)).map u8v).toArray.size = 16 from by simpa using unhide HPL _)
    obtain ⟨pb, hpb⟩ : ∃ y, ((publicS seed ((x.val : Nat) : Int)).map u8v).toArray = y := ⟨_, rfl⟩
    have HPb := hide (show pb.all (·.oneCell') = true from by rw [← hpb]; exact bytes_one _)
    rw [hpb] at hK HPx ⊢
    clear hpb
    gi_wp2_with (refine wpListIn_storeB (ty := 23) (t := 23) (x := .tmp 6) (y := .tmp 10) rfl rfl digest_wide rfl rfl (Blk.new W _ _) rfl (unhide HPx) (unhide HPb) ?_; intro w10 hb10 hc10 hz10; have H10 := hide (And.intro hb10 (made_ext1 hc10)); clear hb10 hc10 hz10)
    exact hK _ _ (unhide H10).2 ⟨_, (unhide H10).1, rfl⟩
  case body =>
    rintro l pre x a' W hc ⟨A, c, hb, ho⟩ ⟨Bx, hx, rfl⟩ hlen
    have HPx := hide (unhide HPL ((x.val : Nat) : Int))
    have HQ := hide (show dcells ((pre ++ [x]).map fun x => publicS seed ((x.val : Nat) : Int)) = dcells (pre.map fun x => publicS seed ((x.val : Nat) : Int)) ++ (publicS seed ((x.val : Nat) : Int)).map u8v from by rw [List.map_append, dcells_append]; congr 1; exact dcells_one _)
    generalize publicS seed ((x.val : Nat) : Int) = p at *
    have HB := hide (And.intro hb (And.intro ho (And.intro hx (And.intro hc (show w.heap.size + 4 ≤ W.heap.size from by have := hc.size; have := (unhide HW).2.2.2.2; omega)))))
    have cb : W.cell? ⟨w.heap.size + 1, 0, none⟩ = some (.slice A pre.length c) := by rw [hb.cell]; rfl
    have fb := hb.frozen 0
    have lb := hb.lt
    clear hb ho hx hc
    gi_wp2_with (first
      | (refine wpListIn_loadB (ty := 23) (t := 23) (x := .tmp 6) rfl rfl digest_wide rfl (unhide HB).2.2.1 (by simpa using unhide HPx) ?_)
      | (refine wpListIn_build1 (t := 30) (x := .tmp 12) rfl digs_row (by omega) rfl rfl (by simpa using unhide HPx) ?_)
      | (gi_at_builtin; refine wpListIn_app rfl rfl digs_row rfl (ownsRow_ext (unhide HB).2.1 ((Ext.refl W).alloc _)) rfl (Reads.newD _ _ _ (unhide HPx) rfl) (AllOne.u8 p) (by omega) (by have := (unhide HB).2.2.2.2; simp; omega) ?_; intro A' c' w4 ho hc4; have H4 := hide (And.intro ho hc4); have cb4 := Chg.cellv hc4 (old_cell W (.cells (p.map u8v).toArray 23) cb) (fun e => by have := ((unhide HB).2.1.lt _ e).1; simp at this); have fb4 := (((unhide HB).1.alloc (.cells (p.map u8v).toArray 23)).chg hc4 (fun e => by have := ((unhide HB).2.1.lt _ e).1; omega)).frozen 0; clear ho hc4))
    refine ⟨?_, ?_, A', c', ?_, ?_⟩
    · exact ((((Ext.refl W).alloc _).chg (S := fun k => k = w.heap.size + 1 ∨ w.heap.size + 4 ≤ k)).trans ((unhide H4).2.mono (fun k _ hk => .inr ((unhide HB).2.1.lt k hk).1))).setCell (p := ⟨w.heap.size + 1, 0, none⟩) (.inl (.inl rfl)) _
    · exact (((KeepsOthers.alloc W _).from _).trans (keeps_own (ownsRow_ext (unhide HB).2.1 ((Ext.refl W).alloc _)) (unhide H4).2)).trans ((KeepsOthers.setCell _ _ _).from _)
    · have := (((unhide HB).1.alloc (.cells (p.map u8v).toArray 23)).chg (unhide H4).2 (fun e => by have := ((unhide HB).2.1.lt _ e).1; omega)).set_ 0 (.slice A' (pre.length + 1) c')
      rw [List.length_append]
      exact this
    · rw [unhide HQ, List.length_append]
      refine ownsRow_chg (unhide H4).1 (Chg.setCell (Chg.refl (fun k => k = w.heap.size + 1) w4) (p := ⟨w.heap.size + 1, 0, none⟩) (.inl rfl) _) (fun k hk => ?_)
      have := ((unhide H4).1.lt k hk).1
      omega
  case done =>
    rintro D W hD hc ⟨A, c, hb, ho⟩ hK
    rw [unhide HF] at ho
    rw [List.length_finRange] at hb ho
    have cb : W.cell? ⟨w.heap.size + 1, 0, none⟩ = some (.slice A n c) := by rw [hb.cell]; rfl
    have HB := hide (And.intro ho (And.intro hc hK))
    have hDw : w.heap.size + 4 ≤ D := by have := (unhide HW).2.2.2.2; omega
    clear hb ho hc hK
    go_wp2
    refine leave_mark rfl (unhide HB).2.2 (results_tmp rfl _ _ _) ?_
    have hE : Ext w W := (unhide HW).1.trans' (unhide HB).2.1 (fun _ _ h => h) (fun i hi e => by omega)
    exact ⟨A, c, rfl, ownsRow_base (ownsRow_putObj (unhide HB).1 _ (unhide HB).2.2 rfl) (by omega), unhide H16, putObj_ext _ hE (by omega), Nat.le_refl _, by have := (putObj_ext (D := D) (.deferred none) hE (by omega)).size'; exact this⟩
end Go.Proofs.YtplkplegjoabgaaGreatDoor


namespace Go.Proofs.YtplkplegjoabgaaGreatDoor
open Go.RowKit
set_option maxRecDepth 100000 in
set_option maxHeartbeats 2000000 in
theorem rdigit_any (m : List UInt8) (k : Nat) (w : World) (hm : m.length = 16) (hk : k < 64) :
    Calls Tryz.prog 114 #[.agg (m.map u8v).toArray, .int .i64 (k : Int)] w fun e w' => e = .returned (.int .i64 ((dig m k : Nat) : Int)) ∧ Ext w w' := by
  obtain ⟨arr, harr⟩ : ∃ r, (m.map u8v).toArray = r := ⟨_, rfl⟩
  have cm : ∀ t, (w.alloc (.cells arr t)).cell? ⟨w.heap.size, k / 4, none⟩ = some (.int .u8 ((m.getD (k / 4) 0).toNat : Int)) := fun t => by
    rw [(Blk.new w _ _).cell, ← harr, List.getElem?_toArray, List.getElem?_map, List.getD_eq_getElem?_getD, List.getElem?_eq_getElem (by omega)]
    rfl
  have HD : Hid (dig m k = (m.getD (k / 4) 0).toNat / 4 ^ (3 - k % 4) % 4) := hide rfl
  rw [harr]
  generalize m.getD (k / 4) 0 = x at *
  have hx := x.toNat_lt
  clear harr hm
  go_enter Tryz.func114, Tryz.ntmps114
  have cm1 := cm 23
  clear cm
  go_wp2_with fail
  go_loop [5, 6] (fun n i => ∃ j : Nat, k % 4 ≤ j ∧ j ≤ 3 ∧ i = .int .i64 j ∧ n = .int .i64 ((x.toNat / 4 ^ (j - k % 4) : Nat) : Int)) (fun _ i => 3 - (intOf i).toNat)
  case atStart => exact ⟨k % 4, Nat.le_refl _, by omega, int_eq (by omega), int_eq (by simp)⟩
  case round =>
    clear cm1
    obtain ⟨j, hj1, hj, rfl, rfl⟩ := hrel
    by_cases hlt : j < 3
    · have HS := hide (show x.toNat / 4 ^ (j + 1 - k % 4) = x.toNat / 4 ^ (j - k % 4) / 4 from by rw [show j + 1 - k % 4 = (j - k % 4) + 1 from by omega, Nat.pow_succ, Nat.div_div_eq_div_mul])
      have hy : x.toNat / 4 ^ (j - k % 4) ≤ x.toNat := Nat.div_le_self _ _
      generalize x.toNat / 4 ^ (j - k % 4) = y at *
      go_wp2
      go_round
      case rel => exact ⟨j + 1, by omega, by omega, by go_num, int_eq (by rw [unhide HS]; first | omega | (unfold wrap64; omega))⟩
      case measure => simp [intOf]; omega
    · obtain rfl : j = 3 := by omega
      generalize x.toNat / 4 ^ (3 - k % 4) = y at *
      go_wp2
      go_ret
      exact ⟨ret_int (by rw [unhide HD]; simp), (Ext.refl w).alloc _⟩
theorem icells_four (m : List UInt8) : icells (digC m) 68 = icells (dig m) 64 ++ [.int .i64 ((chk m : Int) / 64), .int .i64 ((chk m : Int) / 16 % 4), .int .i64 ((chk m : Int) / 4 % 4), .int .i64 ((chk m : Int) % 4)] := by
  have h := chk_le m
  have e64 : icells (digC m) 64 = icells (dig m) 64 := icells_congr fun j hj => by unfold digC; rw [if_pos hj]
  have e4 : digC m 64 = chk m / 64 % 4 := rfl
  have e5 : digC m 65 = chk m / 16 % 4 := rfl
  have e6 : digC m 66 = chk m / 4 % 4 := rfl
  have e7 : digC m 67 = chk m / 1 % 4 := rfl
  rw [icells_step, icells_step, icells_step, icells_step, e64, e4, e5, e6, e7]
  simp only [List.append_assoc, List.cons_append, List.nil_append]
  congr 2
  · congr 1; omega
  · simp
structure GI (w0 : World) (B : Nat) (v : Value) (n : Nat) (l : List Value) (wr : World) : Prop where
  own : wr.ownsRow B 3 1 v n l
  ext : Ext w0 wr
  base : w0.heap.size ≤ B
  room : B ≤ wr.heap.size
theorem GI.nil {w0 wr : World} {B : Nat} (hE : Ext w0 wr) (hB : w0.heap.size ≤ B) (hR : B ≤ wr.heap.size) : GI w0 B (.slice none 0 0) 0 [] wr := ⟨World.ownsRow_nil _ _ _ _, hE, hB, hR⟩
theorem GI.to {w0 wr w1 : World} {B n : Nat} {v : Value} {l : List Value} (h : GI w0 B v n l wr) (hE : Ext wr w1) : GI w0 B v n l w1 := ⟨ownsRow_ext h.own hE, h.ext.trans hE, h.base, Nat.le_trans h.room hE.size'⟩
theorem GI.step {w0 wr w1 w2 : World} {B n n' : Nat} {v v' : Value} {l l' : List Value} (h : GI w0 B v n l wr) (hE : Ext wr w1) (hc : Chg (fun k => v.ownBlock = some k) w1 w2) (ho : w2.ownsRow B 3 1 v' n' l') : GI w0 B v' n' l' w2 :=
  ⟨ho, (h.ext.trans hE).trans' hc (fun _ _ h => h) (fun i hi e => by have := (h.own.lt i e).1; have := h.base; omega), h.base, Nat.le_trans h.room (Nat.le_trans hE.size' hc.size)⟩
theorem GI.blk {w0 wr w1 w2 : World} {B n : Nat} {v : Value} {l : List Value} (h : GI w0 B v n l wr) (hE : Ext wr w1) (hc : Chg (fun k => v.ownBlock = some k) w1 w2) {g : Nat} {t : TypeId} {cs : Array Value} (hb : Blk wr g t cs) (hg : g < B) : Blk w2 g t cs :=
  (hb.ext hE).chg hc (fun e => by have := (h.own.lt g e).1; omega)
theorem GI.reads {w0 wr : World} {B n : Nat} {v : Value} {l : List Value} (h : GI w0 B v n l wr) : Reads wr 1 v n l := Reads.of_own h.own
theorem int_row : SlTy Tryz.prog 148 3 1 8 := SlTy.mk' (z := .int .i64 0) (by kernel_rfl) (by kernel_rfl) rfl (by omega) (by omega)
set_option maxRecDepth 100000 in
set_option maxHeartbeats 4000000 in
theorem rdigits_any (m : List UInt8) (w : World) (hm : m.length = 16) :
    Calls Tryz.prog 81 #[.agg (m.map u8v).toArray] w fun e w' => ∃ A c, e = .returned (.slice A 68 c) ∧ Reads w' 1 (.slice A 68 c) 68 (icells (digC m) 68) ∧ Ext w w' := by
  have HD := hide (fun k (hk : k < 64) (W : World) => rdigit_any m k W hm hk)
  have H4 := hide (icells_four m)
  have hch := chk_le m
  have HL := hide (fun k => sumTo_le m k)
  have HC := hide (show sumTo m 64 = chk m from rfl)
  obtain ⟨arr, harr⟩ : ∃ r, (m.map u8v).toArray = r := ⟨_, rfl⟩
  rw [harr] at HD ⊢
  have hasz : arr.size = 16 := by rw [← harr]; simpa using hm
  clear harr hm
  go_enter Tryz.func81, Tryz.ntmps81
  go_wp2_with fail
  go_loopw [3, 4, 5] (fun b s i wr => ∃ (k : Nat) (A : Option Addr) (c : Nat), k ≤ 64 ∧ i = .int .i64 k ∧ s = .int .i64 ((sumTo m k : Nat) : Int) ∧ b = .slice A k c ∧ Hid (GI w (w.heap.size + 1) (.slice A k c) k (icells (dig m) k) wr ∧ Blk wr w.heap.size 23 arr)) (fun _ _ i _ => 64 - (intOf i).toNat)
  case atStart => exact ⟨0, none, 0, by omega, rfl, rfl, rfl, hide ⟨GI.nil ((Ext.refl w).alloc _) (by omega) (by simp), Blk.new w _ _⟩⟩
  case round =>
    obtain ⟨k, A, c, hk, rfl, rfl, rfl, HI⟩ := hrel
    by_cases hlt : k < 64
    · have HDk := hide (unhide HD k hlt)
      have HS := hide (icells_step (dig m) k)
      have HT := hide (show sumTo m (k + 1) = sumTo m k + (3 - dig m k) from rfl)
      have hd := dig_le m k
      have hs := unhide HL k
      generalize dig m k = d at *
      generalize sumTo m k = s at *
      have hkI : (k : Int) < 64 := by omega
      go_wp2_with (first
        | (refine wpList_loadB (ty := 23) (t := 23) (x := .tmp 1) rfl rfl digest_wide rfl (unhide HI).2 hasz ?_)
        | (go_at_call 114; refine (unhide HDk _).mono ?_; rintro e w2 ⟨rfl, hE2⟩; have H2 := hide hE2; clear hE2)
        | (at_builtin; refine wpList_app rfl rfl int_row rfl ((unhide HI).1.to ((unhide H2).alloc _)).own rfl (Reads.new1 _ _ _) (AllOne.one rfl) (by omega) ((unhide HI).1.to ((unhide H2).alloc _)).room ?_; intro A' c' w3 ho hc hv; have H3 := hide (And.intro ((unhide HI).1.step ((unhide H2).alloc _) hc (l' := icells (dig m) k ++ [.int .i64 (d : Int)]) ho) ((unhide HI).1.blk ((unhide H2).alloc _) hc (unhide HI).2 (by omega))); clear ho hc hv)
        | (refine wpList_loadB (ty := 23) (t := 23) (x := .tmp 1) rfl rfl digest_wide rfl (unhide H3).2 hasz ?_))
      go_roundw
      case rel => exact ⟨k + 1, A', c', by omega, by go_num, int_eq (by rw [unhide HT]; omega), rfl, hide ⟨by rw [unhide HS]; exact (unhide H3).1.to (unhide H2), (unhide H3).2.ext (unhide H2)⟩⟩
      case measure => simp [intOf]; omega
    · obtain rfl : k = 64 := by omega
      rw [unhide HC]
      generalize chk m = ch at *
      go_wp2_with (at_builtin; refine wpList_app rfl rfl int_row rfl ((unhide HI).1.to ((Ext.refl wr).alloc _)).own rfl (Reads.of_blk (Blk.new _ _ #[.int .i64 ((ch : Int) / 64), .int .i64 ((ch : Int) / 16 % 4), .int .i64 ((ch : Int) / 4 % 4), .int .i64 ((ch : Int) % 4)]) (i := 0) (n := 4) (c := 4) (by simp) (by omega) (by unfold maxLen; omega)) ?_ (by omega) ((unhide HI).1.to ((Ext.refl wr).alloc _)).room ?_; (focus (intro u hu; simp at hu; rcases hu with rfl | rfl | rfl | rfl <;> rfl)); intro A' c' w3 ho hc hv; have H3 := hide ((unhide HI).1.step ((Ext.refl wr).alloc _) hc (l' := icells (digC m) 68) (by rw [unhide H4]; exact ho)); clear ho hc hv)
      go_ret
      exact ⟨A', c', rfl, (unhide H3).reads, (unhide H3).ext⟩
set_option maxRecDepth 100000 in
set_option maxHeartbeats 2000000 in
theorem rraw_any (d : List UInt8) (w : World) (hd : d.length = 16) :
    Calls Tryz.prog 82 #[.agg (d.map u8v).toArray] w fun e w' => ∃ A c, e = .returned (.slice A d.length c) ∧ Reads w' 1 (.slice A d.length c) d.length (d.map u8v) ∧ Ext w w' := by
  obtain ⟨arr, harr⟩ : ∃ r, (d.map u8v).toArray = r := ⟨_, rfl⟩
  have HA := hide harr
  rw [harr]
  rw [hd]
  clear harr
  go_enter Tryz.func82, Tryz.ntmps82
  go_wp2_with fail
  go_loopw [3, 4] (fun b i wr => ∃ (k : Nat) (A : Option Addr) (c : Nat), k ≤ 16 ∧ i = .int .i64 k ∧ b = .slice A k c ∧ Hid (GB w (w.heap.size + 1) (.slice A k c) k (d.take k) wr ∧ Blk wr w.heap.size 23 arr)) (fun _ i _ => 16 - (intOf i).toNat)
  case atStart => exact ⟨0, none, 0, by omega, rfl, rfl, hide ⟨GB.nil ((Ext.refl w).alloc _) (by omega) (by simp), Blk.new w _ _⟩⟩
  case round =>
    obtain ⟨k, A, c, hk, rfl, rfl, HI⟩ := hrel
    by_cases hlt : k < 16
    · have hc : wr.cell? ⟨w.heap.size, k, none⟩ = some (u8v (d[k]'(by omega))) := by
        rw [(unhide HI).2.cell, ← unhide HA, List.getElem?_toArray, List.getElem?_map, List.getElem?_eq_getElem (by omega)]
        rfl
      have HS := hide (take_step d k (by omega))
      generalize d[k]'(by omega) = x at *
      unfold u8v at hc
      have hkI : (k : Int) < 16 := by omega
      go_wp2_with (at_builtin; refine wpList_app rfl rfl u8_row rfl ((unhide HI).1.to ((Ext.refl wr).alloc _)).own rfl (Reads.new1 _ _ _) (AllOne.one rfl) (by omega) ((unhide HI).1.to ((Ext.refl wr).alloc _)).room ?_; intro A' c' w3 ho hc3 hv; have H3 := hide (And.intro ho hc3); clear ho hc3 hv)
      go_roundw
      case rel => exact ⟨k + 1, A', c', by omega, by go_num, rfl, hide ⟨(unhide HI).1.step ((Ext.refl wr).alloc _) (unhide H3).2 (by rw [unhide HS, List.map_append]; exact (unhide H3).1), (unhide HI).1.blk ((Ext.refl wr).alloc _) (unhide H3).2 (unhide HI).2 (by omega)⟩⟩
      case measure => simp [intOf]; omega
    · obtain rfl : k = 16 := by omega
      have hX := (unhide HI).1.reads
      rw [List.take_of_length_le (by omega)] at hX
      have HX := hide hX
      clear hX
      go_wp2
      go_ret
      exact ⟨A, c, rfl, unhide HX, (unhide HI).1.ext⟩
end Go.Proofs.YtplkplegjoabgaaGreatDoor


namespace Go.Proofs.YtplkplegjoabgaaGreatDoor
open Go.RowKit
def S2 (w : World) (v : Array Value) (W : World) : Prop := Ext w W ∧ Blk W w.heap.size 23 v ∧ ∃ cs : Array Value, cs.size = 16 ∧ Blk W (w.heap.size + 1) 23 cs
theorem S2.ext {w : World} {v : Array Value} {W W' : World} (h : S2 w v W) (hE : Ext W W') : S2 w v W' := ⟨h.1.trans hE, h.2.1.ext hE, h.2.2.imp fun _ k => ⟨k.1, k.2.ext hE⟩⟩
theorem S2.new (w : World) (v : Array Value) : S2 w v ((w.alloc (.cells v 23)).alloc (.cells (Array.replicate 16 (.int .u8 0)) 23)) := ⟨((Ext.refl w).alloc _).alloc _, (Blk.new w _ _).alloc _, _, rfl, Blk.new' _ _ _ (by simp)⟩
theorem S2.store {w : World} {v cs : Array Value} {W W' : World} (h : S2 w v W) (hb : Blk W' (w.heap.size + 1) 23 cs) (hc : Chg (fun k => k = w.heap.size + 1) W W') (hs : cs.size = 16) : S2 w v W' :=
  ⟨h.1.trans' hc (fun _ _ h => h) (fun i hi e => by omega), h.2.1.chg hc (by omega), _, hs, hb⟩
set_option maxRecDepth 100000 in
set_option maxHeartbeats 4000000 in
theorem rstep_any (k : Nat) (v : List UInt8) (w : World) (hv : v.length = 16) (hk : k < 1000) :
    Calls Tryz.prog 115 #[.int .i64 (k : Int), .agg (v.map u8v).toArray] w fun e w' => e = .returned (.agg ((stepS k v).map u8v).toArray) ∧ Ext w w' := by
  have HW := hide (fun w => rint_any (k : Int) w (by omega) (by omega))
  have HRw := hide (fun w => rraw_any v w hv)
  have HD := hide (fun (W : World) (A A' : Option Addr) (c c' : Nat) (pv : Value) (h1 : Reads W 1 pv 2 [.slice A (wInt k).length c, .slice A' v.length c']) (h2 : Reads W 1 (.slice A (wInt k).length c) (wInt k).length ((wInt k).map u8v)) (h3 : Reads W 1 (.slice A' v.length c') v.length (v.map u8v)) =>
    rdigest_any 3 [wInt k, v] pv W (Parts.two h1 h2 h3) (by simp) (fun p hp => by have := wInt_length (k : Int); simp at hp; rcases hp with rfl | rfl <;> omega))
  obtain ⟨arr, harr⟩ : ∃ r, (v.map u8v).toArray = r := ⟨_, rfl⟩
  rw [harr] at HRw ⊢
  have hasz : arr.size = 16 := by rw [← harr]; simpa using hv
  obtain ⟨res, hres⟩ : ∃ r, stepS k v = r := ⟨_, rfl⟩
  have HR := hide (And.intro hres (show res.length = 16 from by rw [← hres]; exact digestS_length _ _))
  rw [hres]
  clear harr hres hv
  have HZ := hide (S2.new w arr)
  go_enter Tryz.func115, Tryz.ntmps115
  go_upto_region 1 with fail
  refine wp_region_held_drew (S := S2 w arr) (by kernel_rfl) ((unhide HZ).ext ((Ext.refl _).drew)) (fun hHeld => ?_)
  refine wpAnyH_take (i := 0) (oi := _) (v := ?_) rfl (by kernel_rfl) (by kernel_rfl) (by kernel_rfl) (fun _ _ _ h => h) (Or.inl ⟨by rfl, fun wz hSz => ?_⟩) (by assumption) ?_
  rotate_left
  · (first | (go_simp; done) | (go_simp; with_reducible rfl))
  try simp only [Act.put, List.setIfInBounds_toArray, List.set_cons_zero, List.set_cons_succ, List.getElem_toArray, List.getElem_cons_zero]
  refine wpAnyH_take (i := 2) (oi := _) (v := _) rfl (by kernel_rfl) (by kernel_rfl) (by kernel_rfl) (fun _ _ _ h => h) (ylb digest_wide rfl (by rfl) rfl hasz (fun w' hw => hw.2.1)) (by assumption) ?_
  try simp only [Act.put, List.setIfInBounds_toArray, List.set_cons_zero, List.set_cons_succ, List.getElem_toArray, List.getElem_cons_succ, List.getElem_cons_zero]
  refine wpAnyH_ready (rs := [1]) (by kernel_rfl) (by simp) (AllReadyH.cons (o := _) rfl (fun K hK => ?_) AllReadyH.nil)
  try go_simp
  (refine (unhide HW _).mono ?_; rintro e w3 ⟨A3, c3, rfl, ho3, hE3⟩; have hS := hHeld.ext hE3; have H3 := hide (Reads.of_own ho3); clear hHeld hE3 ho3)
  refine hK.out _ _ ?_ (fun hHeld => ?_)
  · exact hS
  clear hK K
  try simp only [Act.put, List.setIfInBounds_toArray, List.set_cons_zero, List.set_cons_succ, List.getElem_toArray, List.getElem_cons_succ, List.getElem_cons_zero]
  refine wpAnyH_ready (rs := [3]) (by kernel_rfl) (by simp) (AllReadyH.cons (o := _) rfl (fun K hK => ?_) AllReadyH.nil)
  try go_simp
  (refine (unhide HRw _).mono ?_; rintro e w4 ⟨A4, c4, rfl, ho4, hE4⟩; have hS := hHeld.ext hE4; have H4 := hide (And.intro ((unhide H3).ext hE4) ho4); clear hHeld hE4 ho4 H3)
  refine hK.out _ _ ?_ (fun hHeld => ?_)
  · exact hS
  clear hK K
  try simp only [Act.put, List.setIfInBounds_toArray, List.set_cons_zero, List.set_cons_succ, List.getElem_toArray, List.getElem_cons_succ, List.getElem_cons_zero]
  refine wpAnyH_ready (rs := [4]) (by kernel_rfl) (by simp) (AllReadyH.cons (o := _) rfl (fun K hK => ?_) AllReadyH.nil)
  try go_simp
  (have hS := hHeld.ext ((Ext.refl w4).alloc (.cells #[.slice A3 (wInt k).length c3, .slice A4 v.length c4] 40)); clear hHeld)
  refine hK.out _ _ ?_ (fun hHeld => ?_)
  · exact hS
  clear hK K
  try simp only [Act.put, List.setIfInBounds_toArray, List.set_cons_zero, List.set_cons_succ, List.getElem_toArray, List.getElem_cons_succ, List.getElem_cons_zero]
  refine wpAnyH_ready (rs := [5]) (by kernel_rfl) (by simp) (AllReadyH.cons (o := _) rfl (fun K hK => ?_) AllReadyH.nil)
  try go_simp
  (refine (unhide HD _ A3 A4 c3 c4 _ (Reads.new2 _ _ _ _ rfl) ((unhide H4).1.ext ((Ext.refl _).alloc _)) ((unhide H4).2.ext ((Ext.refl _).alloc _))).mono ?_; rintro e w5 ⟨rfl, hE5⟩; rw [show digestS 3 [wInt k, v] = res from (unhide HR).1]; have hS := hHeld.ext hE5; clear hHeld hE5)
  refine hK.out _ _ ?_ (fun hHeld => ?_)
  · exact hS
  clear hK K
  try simp only [Act.put, List.setIfInBounds_toArray, List.set_cons_zero, List.set_cons_succ, List.getElem_toArray, List.getElem_cons_succ, List.getElem_cons_zero]
  obtain ⟨cs, hcs, hBk⟩ := hHeld.2.2
  refine wpAnyH_ready (rs := [6]) (by kernel_rfl) (by simp) (AllReadyH.cons (o := _) rfl (fun K hK => ?_) AllReadyH.nil)
  (refine step_storeB (ty := 23) (t := 23) (x := .tmp 4) (y := .tmp 10) rfl rfl digest_wide rfl rfl hBk hcs (by simpa using (unhide HR).2) (bytes_one _) ?_; intro w7 hb7 hc7 hz7; have hS := hHeld.store hb7 hc7 (by simpa using (unhide HR).2); have H7 := hide hb7; clear hb7 hc7 hz7 hHeld)
  refine hK.out _ _ ?_ (fun hHeld => ?_)
  · exact hS
  clear hK K
  try simp only [Act.put, List.getElem_toArray, List.getElem_cons_succ, List.getElem_cons_zero]
  refine wpAnyH_done (by kernel_rfl) ?_ _
  have H8 := hide hHeld.1
  go_wp2
  refine bodyPost_ret (v := .agg (res.map u8v).toArray) (results_blk digest_wide rfl (unhide H7) (by simpa using (unhide HR).2) rfl) rfl ⟨rfl, unhide H8⟩
set_option maxRecDepth 100000 in
set_option maxHeartbeats 4000000 in
theorem radv_any (k n : Nat) (v : List UInt8) (w : World) (hv : v.length = 16) (hk : k < 1000) (hn : n < 1000) :
    Calls Tryz.prog 83 #[.int .i64 (k : Int), .agg (v.map u8v).toArray, .int .i64 (n : Int)] w fun e w' => e = .returned (.agg ((advS k v n).map u8v).toArray) ∧ Ext w w' := by
  have HD := hide (fun (j : Nat) (W : World) => rstep_any k (advS k v j) W (advS_length k v hv j) hk)
  have HL := hide (advS_length k v hv)
  have HS := hide (fun j => show stepS k (advS k v j) = advS k v (j + 1) from rfl)
  obtain ⟨F, hF⟩ : ∃ F, advS k v = F := ⟨_, rfl⟩
  rw [hF] at HD HL HS ⊢
  have h0 : F 0 = v := by rw [← hF]; rfl
  go_enter Tryz.func83, Tryz.ntmps83
  go_wp2_with fail
  go_loopw [7] (fun i wr => ∃ j : Nat, j ≤ n ∧ i = .int .i64 j ∧ Hid (Blk wr w.heap.size 23 ((F j).map u8v).toArray ∧ Blk wr (w.heap.size + 1) 23 (Array.replicate 16 (.int .u8 0)) ∧ Ext w wr)) (fun i _ => n - (intOf i).toNat)
  case atStart => exact ⟨0, by omega, rfl, hide ⟨by rw [h0]; exact (Blk.new w _ _).alloc _, Blk.new' _ _ _ (by simp), ((Ext.refl w).alloc _).alloc _⟩⟩
  case round =>
    obtain ⟨j, hj, rfl, HI⟩ := hrel
    by_cases hlt : j < n
    · have HJ := hide (unhide HS j)
      have HL1 := hide (unhide HL (j + 1))
      have HLj := hide (unhide HL j)
      have HDj := hide (unhide HD j)
      rw [unhide HJ] at HDj
      go_wp2_with (first
        | (refine wpList_loadB (ty := 23) (t := 23) (x := .tmp 4) rfl rfl digest_wide rfl (unhide HI).1 (by simpa using unhide HLj) ?_)
        | (go_at_call 115; refine (unhide HDj _).mono ?_; rintro e w5 ⟨rfl, hE5⟩; have H5 := hide hE5; clear hE5)
        | (refine wpList_storeB (ty := 23) (t := 23) (x := .tmp 4) (y := .tmp 15) rfl rfl digest_wide rfl rfl ((unhide HI).1.ext (unhide H5)) (by simpa using unhide HLj) (by simpa using unhide HL1) (bytes_one _) ?_; intro w6 hb6 hc6 hz6; have H6 := hide (And.intro hb6 hc6); clear hb6 hc6 hz6))
      go_roundw
      case rel => exact ⟨j + 1, by omega, by go_num, hide ⟨(unhide H6).1, ((unhide HI).2.1.ext (unhide H5)).chg (unhide H6).2 (by omega), ((unhide HI).2.2.trans (unhide H5)).trans' (unhide H6).2 (fun _ _ h => h) (fun i hi e => by omega)⟩⟩
      case measure => simp [intOf]; omega
    · obtain rfl : j = n := by omega
      go_wp2_with (first
        | (refine wpList_loadB (ty := 23) (t := 23) (x := .tmp 4) rfl rfl digest_wide rfl (unhide HI).1 (by simpa using unhide HL j) ?_)
        | (refine wpList_storeB (ty := 23) (t := 23) (x := .tmp 6) (y := .tmp 16) rfl rfl digest_wide rfl rfl (unhide HI).2.1 rfl (by simpa using unhide HL j) (bytes_one _) ?_; intro w7 hb7 hc7 hz7; have H7 := hide (And.intro hb7 hc7); clear hb7 hc7 hz7))
      refine bodyPost_ret (v := .agg ((F j).map u8v).toArray) (results_blk digest_wide rfl (unhide H7).1 (by simpa using unhide HL j) rfl) rfl ⟨rfl, ?_⟩
      exact (unhide HI).2.2.trans' (unhide H7).2 (fun _ _ h => h) (fun i hi e => by omega)
set_option maxRecDepth 100000 in
set_option maxHeartbeats 4000000 in
theorem rstart_any (k : Nat) (seed : List UInt8) (index : Int) (w : World) (hv : seed.length = 16) (hk : k < 1000) (h1 : -9223372036854775808 ≤ index) (h2 : index < 9223372036854775808) :
    Calls Tryz.prog 86 #[.agg (seed.map u8v).toArray, .int .i64 index, .int .i64 (k : Int)] w fun e w' => e = .returned (.agg ((startS seed index k).map u8v).toArray) ∧ Ext w w' := by
  have HW := hide (fun w => rint_any index w h1 h2)
  have HW2 := hide (fun w => rint_any (k : Int) w (by omega) (by omega))
  have HRw := hide (fun w => rraw_any seed w hv)
  have HD := hide (fun (W : World) (A A' A0 : Option Addr) (c c' c0 : Nat) (pv : Value) (h1 : Reads W 1 pv 2 [.slice A (wInt index).length c, .slice A' (wInt k).length c']) (h2 : Reads W 1 (.slice A (wInt index).length c) (wInt index).length ((wInt index).map u8v)) (h2' : Reads W 1 (.slice A' (wInt k).length c') (wInt k).length ((wInt k).map u8v)) (h3 : Reads W 1 (.slice A0 seed.length c0) seed.length (seed.map u8v)) =>
    rderive_any seed (.slice A0 seed.length c0) ⟨#[119, 111, 116, 115]⟩ [wInt index, wInt k] pv W h3 (by omega) (by decide) (Parts.two h1 h2 h2') (by simp) (fun p hp => by have := wInt_length (k : Int); have := wInt_length index; simp at hp; rcases hp with rfl | rfl <;> omega))
  obtain ⟨arr, harr⟩ : ∃ r, (seed.map u8v).toArray = r := ⟨_, rfl⟩
  rw [harr] at HRw ⊢
  have hasz : arr.size = 16 := by rw [← harr]; simpa using hv
  obtain ⟨res, hres⟩ : ∃ r, startS seed index k = r := ⟨_, rfl⟩
  have HR := hide (And.intro hres (show res.length = 16 from by rw [← hres]; exact startS_length _ _ _))
  rw [hres]
  clear harr hres h1 h2 hv
  have HT := hide True.intro
  have HZ := hide (S2.new w arr)
  go_enter Tryz.func86, Tryz.ntmps86
  go_wp2_with (first
    | (refine wpList_loadB (ty := 23) (t := 23) (x := .tmp 3) rfl rfl digest_wide rfl (unhide HZ).2.1 hasz ?_)
    | (go_at_call 82; refine (unhide HRw _).mono ?_; rintro e w0 ⟨A0, c0, rfl, ho0, hE0⟩; have H0 := hide (And.intro ho0 ((unhide HZ).ext hE0)); clear ho0 hE0)
    | (clear HT; go_at_call 117; refine (unhide HW _).mono ?_; rintro e w3 ⟨A3, c3, rfl, ho3, hE3⟩; have H3 := hide (And.intro ((unhide H0).1.ext hE3) (And.intro (Reads.of_own ho3) ((unhide H0).2.ext hE3))); clear ho3 hE3)
    | (go_at_call 117; refine (unhide HW2 _).mono ?_; rintro e w4 ⟨A4, c4, rfl, ho4, hE4⟩; have H4 := hide (And.intro ((unhide H3).1.ext hE4) (And.intro ((unhide H3).2.1.ext hE4) (And.intro (Reads.of_own ho4) ((unhide H3).2.2.ext hE4)))); clear ho4 hE4)
    | (go_at_call 116; refine (unhide HD _ A3 A4 A0 c3 c4 c0 _ (Reads.new2 _ _ _ _ rfl) ((unhide H4).2.1.ext ((Ext.refl _).alloc _)) ((unhide H4).2.2.1.ext ((Ext.refl _).alloc _)) ((unhide H4).1.ext ((Ext.refl _).alloc _))).mono ?_; rintro e w5 ⟨rfl, hE5⟩; rw [show deriveS seed (⟨#[119, 111, 116, 115]⟩ : ByteArray).data.toList [wInt index, wInt k] = res from (unhide HR).1]; have H5 := hide ((unhide H4).2.2.2.ext (((Ext.refl w4).alloc _).trans hE5)); clear hE5
       obtain ⟨cs, hcs, hBk⟩ := (unhide H5).2.2
       have HBk := hide (And.intro hcs hBk)
       clear hcs hBk)
    | (refine wpList_storeB (ty := 23) (t := 23) (x := .tmp 6) (y := .tmp 14) rfl rfl digest_wide rfl rfl (unhide HBk).2 (unhide HBk).1 (by simpa using (unhide HR).2) (bytes_one _) ?_; intro w6 hb6 hc6 hz6; have H6 := hide (And.intro hb6 hc6); clear hb6 hc6 hz6))
  refine bodyPost_ret (v := .agg (res.map u8v).toArray) (results_blk digest_wide rfl (unhide H6).1 (by simpa using (unhide HR).2) rfl) rfl ⟨rfl, ?_⟩
  exact (unhide H5).1.trans' (unhide H6).2 (fun _ _ h => h) (fun i hi e => by omega)
set_option maxRecDepth 100000 in
set_option maxHeartbeats 4000000 in
theorem rpublic_any (seed : List UInt8) (index : Int) (w : World) (hv : seed.length = 16) (h1 : -9223372036854775808 ≤ index) (h2 : index < 9223372036854775808) :
    Calls Tryz.prog 76 #[.agg (seed.map u8v).toArray, .int .i64 index] w fun e w' => e = .returned (.agg ((publicS seed index).map u8v).toArray) ∧ Ext w w' := by
  have HS := hide (fun k (hk : k < 68) (W : World) => rstart_any k seed index W hv (by omega) h1 h2)
  have HA := hide (fun k (hk : k < 68) (W : World) => radv_any k 3 (startS seed index k) W (startS_length _ _ _) (by omega) (by omega))
  have HW := hide (fun k (W : World) => rraw_any (advS k (startS seed index k) 3) W (advS_length k _ (startS_length _ _ _) 3))
  have HL := hide (fun k => advS_length k _ (startS_length seed index k) 3)
  have HE := hide (endsS_step (fun k => advS k (startS seed index k) 3))
  have HEL := hide (endsS_length (fun k => advS k (startS seed index k) 3) (unhide HL) 68)
  have HP := hide (show digestS 4 [endsS (fun k => advS k (startS seed index k) 3) 68] = publicS seed index ∧ (publicS seed index).length = 16 from ⟨rfl, digestS_length _ _⟩)
  obtain ⟨F, hF⟩ : ∃ F, endsS (fun k => advS k (startS seed index k) 3) = F := ⟨_, rfl⟩
  have hF0 : F 0 = [] := by rw [← hF]; rfl
  rw [hF] at HE HEL HP
  obtain ⟨arr, harr⟩ : ∃ r, (seed.map u8v).toArray = r := ⟨_, rfl⟩
  rw [harr] at HS ⊢
  have hasz : arr.size = 16 := by rw [← harr]; simpa using hv
  obtain ⟨res, hres⟩ : ∃ r, publicS seed index = r := ⟨_, rfl⟩
  rw [hres] at HP ⊢
  have HD := hide (fun (W : World) (A : Option Addr) (c : Nat) (pv : Value) (h1 : Reads W 1 pv 1 [.slice A (F 68).length c]) (h2 : Reads W 1 (.slice A (F 68).length c) (F 68).length ((F 68).map u8v)) =>
    rdigest_any 4 [F 68] pv W (Parts.one h1 h2) (by simp) (fun p hp => by have := unhide HEL; simp at hp; subst hp; omega))
  clear harr hres hF hv h1 h2
  have HZ := hide (S2.new w arr)
  go_enter Tryz.func76, Tryz.ntmps76
  go_wp2_with fail
  go_loopw [5, 6] (fun b i wr => ∃ (k : Nat) (A : Option Addr) (c : Nat), k ≤ 68 ∧ i = .int .i64 k ∧ b = .slice A (16 * k) c ∧ Hid (GB w (w.heap.size + 2) b (16 * k) (F k) wr ∧ Blk wr w.heap.size 23 arr ∧ Blk wr (w.heap.size + 1) 23 (Array.replicate 16 (.int .u8 0)))) (fun _ i _ => 68 - (intOf i).toNat)
  case atStart => exact ⟨0, none, 0, by omega, rfl, rfl, hide ⟨by rw [hF0]; exact GB.nil (unhide HZ).1 (by omega) (by simp), (unhide HZ).2.1, Blk.new' _ _ _ (by simp)⟩⟩
  case round =>
    clear HZ
    obtain ⟨k, A, c, hk, rfl, rfl, HI⟩ := hrel
    by_cases hlt : k < 68
    · have HSk := hide (unhide HS k hlt)
      have HAk := hide (unhide HA k hlt)
      have HWk := hide (unhide HW k)
      have HLk := hide (unhide HL k)
      have HEk := hide (unhide HE k)
      generalize hd : advS k (startS seed index k) 3 = d at *
      generalize hst : ((startS seed index k).map u8v).toArray = st at *
      have hkI : (k : Int) < 68 := by omega
      clear hd hst
      go_wp2_with (first
        | (refine wpList_loadB (ty := 23) (t := 23) (x := .tmp 2) rfl rfl digest_wide rfl (unhide HI).2.1 hasz ?_)
        | (go_at_call 86; refine (unhide HSk _).mono ?_; rintro e w2 ⟨rfl, hE2⟩; have H2 := hide hE2; clear hE2)
        | (go_at_call 83; refine (unhide HAk _).mono ?_; rintro e w3 ⟨rfl, hE3⟩; have H3 := hide ((unhide H2).trans hE3); clear hE3)
        | (go_at_call 82; refine (unhide HWk _).mono ?_; rintro e w4 ⟨A4, c4, rfl, ho4, hE4⟩; have H4 := hide (And.intro ho4 ((unhide H3).trans hE4)); clear hE4 ho4)
        | (at_builtin; refine wpList_app rfl rfl u8_row rfl ((unhide HI).1.to (unhide H4).2).own rfl (unhide H4).1 (AllOne.u8 d) (by have := unhide HLk; omega) ((unhide HI).1.to (unhide H4).2).room ?_; intro A' c' w5 ho hc hv; have H5 := hide (And.intro ho hc); clear ho hc hv))
      go_roundw
      case rel =>
        have e16 : 16 * k + d.length = 16 * (k + 1) := by have := unhide HLk; omega
        refine ⟨k + 1, A', c', by omega, by go_num, by rw [e16], hide ⟨?_, (unhide HI).1.blk (unhide H4).2 (unhide H5).2 (unhide HI).2.1 (by omega), (unhide HI).1.blk (unhide H4).2 (unhide H5).2 (unhide HI).2.2 (by omega)⟩⟩
        have h5 := (unhide H5).1
        rw [← List.map_append] at h5
        rw [unhide HEk, ← e16]
        exact (unhide HI).1.step (unhide H4).2 (unhide H5).2 h5
      case measure => simp [intOf]; omega
    · obtain rfl : k = 68 := by omega
      have HX := hide (show GB w (w.heap.size + 2) (.slice A (F 68).length c) (F 68).length (F 68) wr from by rw [unhide HEL]; exact (unhide HI).1)
      have HZ2 := hide (unhide HI).2.2
      have e68 : 16 * 68 = (F 68).length := (unhide HEL).symm
      rw [e68]
      clear HI e68
      go_wp2_with (first
        | (go_at_call 72; refine (unhide HD _ A c _ (Reads.new1 _ _ _) ((unhide HX).reads.ext ((Ext.refl _).alloc _))).mono ?_; rintro e w5 ⟨rfl, hE5⟩; rw [(unhide HP).1]; have H5 := hide (((Ext.refl wr).alloc _).trans hE5); clear hE5)
        | (refine wpList_storeB (ty := 23) (t := 23) (x := .tmp 4) (y := .tmp 22) rfl rfl digest_wide rfl rfl ((unhide HZ2).ext (unhide H5)) rfl (by simpa using (unhide HP).2) (bytes_one _) ?_; intro w7 hb7 hc7 hz7; have H7 := hide (And.intro hb7 hc7); clear hb7 hc7 hz7))
      refine bodyPost_ret (v := .agg (res.map u8v).toArray) (results_blk digest_wide rfl (unhide H7).1 (by simpa using (unhide HP).2) rfl) rfl ⟨rfl, ?_⟩
      exact ((unhide HX).ext.trans (unhide H5)).trans' (unhide H7).2 (fun _ _ h => h) (fun i hi e => by omega)
end Go.Proofs.YtplkplegjoabgaaGreatDoor


namespace Go.Proofs.YtplkplegjoabgaaGreatDoor
open Go.RowKit
theorem many_no (h : Int) (w : World) (hh : ¬ okH h) : Calls Tryz.prog 19 #[.int .i64 h] w fun e w' => e = .returned (.int .i64 0) ∧ w = w' := by
  unfold okH at hh
  by_cases h1 : h < 0
  · clear hh
    go_enter Tryz.func19, Tryz.ntmps19
    go_wp2
    go_ret
    exact ⟨rfl, rfl⟩
  · have h2 : 4 < h := by omega
    clear hh
    go_enter Tryz.func19, Tryz.ntmps19
    go_wp2
    go_ret
    exact ⟨rfl, rfl⟩
theorem pow_le16 (j h : Nat) (hj : j ≤ h) (hh : h ≤ 4) : 2 ^ j ≤ 16 := Nat.le_trans (Nat.pow_le_pow_right (by omega) (Nat.le_trans hj hh)) (by omega)
theorem many_yes (h n : Nat) (hn : n = 2 ^ h) (hh : h ≤ 4) (w : World) : Calls Tryz.prog 19 #[.int .i64 (h : Int)] w fun e w' => e = .returned (.int .i64 (n : Int)) ∧ w = w' := by
  have HN := hide hn
  clear hn
  go_enter Tryz.func19, Tryz.ntmps19
  go_wp2
  go_loop [3, 4] (fun x y => ∃ j q : Nat, j ≤ h ∧ q ≤ 16 ∧ x = .int .i64 q ∧ y = .int .i64 j ∧ Hid (q = 2 ^ j)) (fun _ y => h - (intOf y).toNat)
  case atStart => exact ⟨0, 1, by omega, by omega, rfl, rfl, hide rfl⟩
  case round =>
    obtain ⟨j, q, hj, hq, rfl, rfl, HQ⟩ := hrel
    by_cases hlt : j < h
    · have hltI : (j : Int) < (h : Int) := by omega
      go_wp2
      go_round
      case rel => exact ⟨j + 1, 2 * q, by omega, by have := pow_le16 (j + 1) h (by omega) hh; have := unhide HQ; rw [Nat.pow_succ] at *; omega, by go_num, by go_num, hide (by rw [unhide HQ, Nat.pow_succ]; omega)⟩
      case measure => simp [intOf]; omega
    · obtain rfl : j = h := by omega
      obtain rfl : n = q := by rw [unhide HN, unhide HQ]
      go_wp2
      go_ret
      exact ⟨rfl, rfl⟩
set_option maxRecDepth 100000 in
set_option maxHeartbeats 4000000 in
theorem rkeys_any (seed : List UInt8) (h n : Nat) (hn : n = 2 ^ h) (hh : h ≤ 4) (w : World) (hv : seed.length = 16) :
    Calls Tryz.prog 38 #[.agg (seed.map u8v).toArray, .int .i64 (h : Int)] w fun e w' => ∃ A c, e = .returned (.slice A n c) ∧ GD w w.heap.size (.slice A n c) n (leavesS seed n) w' := by
  have hn16 : n ≤ 16 := by subst hn; exact pow_le16 h h (Nat.le_refl _) hh
  have HMn := hide (fun W => many_yes h n hn hh W)
  have HPb := hide (fun k (hk : k < n) W => rpublic_any seed ((k : Nat) : Int) W hv (by omega) (by omega))
  have HPL := hide (publicS_length seed)
  have HST := hide (leavesS_step seed)
  have HS0 := hide (show leavesS seed 0 = [] from rfl)
  obtain ⟨arr, harr⟩ : ∃ x, (seed.map u8v).toArray = x := ⟨_, rfl⟩
  have HSZ := hide (show arr.size = 16 from by rw [← harr]; simpa using hv)
  rw [harr] at HPb ⊢
  clear hn hh harr hv
  go_enter Tryz.func38, Tryz.ntmps38
  go_wp2_with fail
  go_loopw [5, 6] (fun b i wr => ∃ (k : Nat) (A : Option Addr) (c : Nat), k ≤ n ∧ i = .int .i64 k ∧ b = .slice A k c ∧ Hid (GD w (w.heap.size + 1) (.slice A k c) k (leavesS seed k) wr ∧ Blk wr w.heap.size 23 arr)) (fun _ i _ => n - (intOf i).toNat)
  case atStart => exact ⟨0, none, 0, by omega, rfl, rfl, hide ⟨by rw [unhide HS0]; exact GD.nil ((Ext.refl w).alloc _) (by omega) (by simp), Blk.new w _ _⟩⟩
  case round =>
    obtain ⟨k, A, c, hk, rfl, rfl, HI⟩ := hrel
    by_cases hlt : k < n
    · have HP := hide (unhide HPb k hlt wr)
      have HL := hide (unhide HPL ((k : Nat) : Int))
      have HTk := hide (unhide HST k)
      have hltI : (k : Int) < (n : Int) := by omega
      generalize publicS seed ((k : Nat) : Int) = p at *
      go_wp2_with (first
        | (go_at_call 19; refine (unhide HMn _).mono ?_; rintro e wz ⟨rfl, rfl⟩)
        | (refine wpList_loadB (ty := 23) (t := 23) (x := .tmp 2) rfl rfl digest_wide rfl (cs := arr) (unhide HI).2 (unhide HSZ) ?_)
        | (go_at_call 76; refine (unhide HP).mono ?_; rintro e w3 ⟨rfl, hE3⟩; have H3 := hide hE3; clear hE3)
        | (refine wpList_build1 (t := 30) (x := .tmp 16) rfl digs_row (by omega) rfl rfl (by simpa using unhide HL) ?_)
        | (at_builtin; refine wpList_app rfl rfl digs_row rfl ((unhide HI).1.to ((unhide H3).alloc _)).own rfl (Reads.newD _ _ _ (unhide HL) rfl) (AllOne.u8 p) (by omega) ((unhide HI).1.to ((unhide H3).alloc _)).room ?_; intro A' c' w4 ho hc4 hv; have H4 := hide (And.intro ho hc4); clear ho hc4 hv))
      go_roundw
      case rel =>
        refine ⟨k + 1, A', c', by omega, by go_num, rfl, hide ⟨by rw [unhide HTk]; exact (unhide HI).1.step (unhide HL) ((unhide H3).alloc _) (unhide H4).2 (unhide H4).1, ?_⟩⟩
        exact ((unhide HI).2.ext ((unhide H3).alloc _)).chg (unhide H4).2 (fun e => by have h5 := ((unhide HI).1.own.lt _ e).1; omega)
      case measure => simp [intOf]; omega
    · obtain rfl : k = n := by omega
      go_wp2_with (go_at_call 19; refine (unhide HMn _).mono ?_; rintro e wz ⟨rfl, rfl⟩)
      go_ret
      exact ⟨A, c, rfl, ⟨ownsRow_base (unhide HI).1.own (by omega), (unhide HI).1.all, (unhide HI).1.ext, Nat.le_refl _, (unhide HI).1.ext.size'⟩⟩
set_option maxRecDepth 100000 in
set_option maxHeartbeats 4000000 in
theorem rtroot_no (seed : List UInt8) (h : Int) (w : World) (hh : ¬ okH h) :
    Calls Tryz.prog 14 #[.agg (seed.map u8v).toArray, .int .i64 h] w fun e w' => e = .returned (.tuple #[.agg (z16.map u8v).toArray, .int .i64 1]) ∧ Ext w w' := by
  have HV := hide (fun W => many_no h W hh)
  obtain ⟨arr, harr⟩ : ∃ x, (seed.map u8v).toArray = x := ⟨_, rfl⟩
  rw [harr]
  clear hh harr
  go_enter Tryz.func14, Tryz.ntmps14
  go_wp2_with (go_at_call 19; refine (unhide HV _).mono ?_; rintro e wz ⟨rfl, rfl⟩)
  refine bodyPost_ret (v := .tuple #[.agg (z16.map u8v).toArray, .int .i64 1]) (results_two digest_wide rfl (Blk.new' _ _ _ (by simp)) rfl rfl rfl) rfl ⟨rfl, ?_⟩
  exact ((Ext.refl w).alloc _).alloc _
theorem okH_nat (h : Nat) (hh : h ≤ 4) : okH (h : Int) := ⟨by omega, by omega⟩
set_option maxRecDepth 100000 in
set_option maxHeartbeats 4000000 in
theorem rtroot_yes (seed : List UInt8) (h n : Nat) (hn : n = 2 ^ h) (hh : h ≤ 4) (w : World) (hv : seed.length = 16)  :
    Calls Tryz.prog 14 #[.agg (seed.map u8v).toArray, .int .i64 (h : Int)] w fun e w' => e = .returned (.tuple #[.agg ((rootS (leavesS seed n)).map u8v).toArray, .int .i64 0]) ∧ Ext w w' := by
  have hn16 : n ≤ 16 := by subst hn; exact pow_le16 h h (Nat.le_refl _) hh
  have hn1 : 1 ≤ n := by subst hn; exact Nat.one_le_two_pow
  have HV := hide (fun W => (fun W => many_yes h n hn hh W) W)
  have HK := hide (fun W (hE : Ext w W) => rkeys_any seed h n hn hh W hv )
  have HG := hide (fun (A : Option Addr) (c : Nat) W (hE : Ext w W) (hD : Digs W (.slice A n c) (leavesS seed n)) => rroot_any n (leavesS seed n) (.slice A n c) W  (by rw [leavesS_length]; omega) (by rw [leavesS_length]; omega) hD)
  have HL := hide (rootS_length (leavesS seed n))
  obtain ⟨res, hres⟩ : ∃ x, rootS (leavesS seed n) = x := ⟨_, rfl⟩
  rw [hres] at HG HL ⊢
  obtain ⟨arr, harr⟩ : ∃ x, (seed.map u8v).toArray = x := ⟨_, rfl⟩
  have HSZ := hide (show arr.size = 16 from by rw [← harr]; simpa using hv)
  rw [harr] at HK ⊢
  have hnI : ¬ (n : Int) = 0 := by omega
  clear hn hh harr hv hres
  go_enter Tryz.func14, Tryz.ntmps14
  go_wp2_with (first
    | (go_at_call 19; refine (unhide HV _).mono ?_; rintro e wz ⟨rfl, rfl⟩)
    | (refine wpList_loadB (ty := 23) (t := 23) (x := .tmp 2) rfl rfl digest_wide rfl (cs := arr) ((Blk.new w _ _).alloc _) (unhide HSZ) ?_)
    | (go_at_call 38; refine (unhide HK _ (((Ext.refl w).alloc _).alloc _)).mono ?_; rintro e w1 ⟨A1, c1, rfl, hG⟩; have H1 := hide (And.intro hG.digs (And.intro ((((Ext.refl w).alloc _).alloc _).trans hG.ext) ((Blk.new' (w.alloc (.cells arr 23)) 23 (Array.replicate 16 (.int .u8 0)) (g := w.heap.size + 1) (by simp)).ext hG.ext))); clear hG)
    | (go_at_call 37; refine (unhide HG A1 c1 _ (unhide H1).2.1 (unhide H1).1).mono ?_; rintro e w2 ⟨rfl, hE2⟩; have H2 := hide (And.intro ((unhide H1).2.1.trans hE2) ((unhide H1).2.2.ext hE2)); clear hE2)
    | (refine wpList_storeB (ty := 23) (t := 23) (x := .tmp 4) (y := .tmp 13) rfl rfl digest_wide rfl rfl (unhide H2).2 rfl (by simpa using unhide HL) (bytes_one _) ?_; intro w7 hb7 hc7 hz7; have H7 := hide (And.intro hb7 hc7); clear hb7 hc7 hz7))
  refine bodyPost_ret (v := .tuple #[.agg (res.map u8v).toArray, .int .i64 0]) (results_two digest_wide rfl (unhide H7).1 (by simpa using unhide HL) rfl rfl) rfl ⟨rfl, ?_⟩
  exact (unhide H2).1.trans' (unhide H7).2 (fun _ _ h => h) (fun i hi e => by omega)
end Go.Proofs.YtplkplegjoabgaaGreatDoor


namespace Go.Proofs.YtplkplegjoabgaaGreatDoor
open Go.RowKit
end Go.Proofs.YtplkplegjoabgaaGreatDoor


namespace Go.Proofs.YtplkplegjoabgaaGreatDoor
open Go.RowKit
def S3 (w : World) (v : Array Value) (dv : Value) (m : List UInt8) (W : World) : Prop := Ext w W ∧ Blk W w.heap.size 23 v ∧ Reads W 1 dv 68 (icells (digC m) 68)
theorem S3.ext {w : World} {v : Array Value} {dv : Value} {m : List UInt8} {W W' : World} (h : S3 w v dv m W) (hE : Ext W W') : S3 w v dv m W' := ⟨h.1.trans hE, h.2.1.ext hE, h.2.2.ext hE⟩
theorem S3.chg {w : World} {v : Array Value} {dv : Value} {m : List UInt8} {W W' : World} {S : Nat → Prop} {B : Nat} (h : S3 w v dv m W) (hc : Chg S W W') (hS : ∀ k, S k → B ≤ k) (hB : w.heap.size < B) (hd : ∀ k, dv.ownBlock = some k → k < B) : S3 w v dv m W' :=
  ⟨h.1.trans' hc (fun _ _ h => h.elim) (fun i hi e => by have := hS i e; omega), h.2.1.chg hc (fun e => by have := hS _ e; omega), h.2.2.chg hc (fun k _ hk e => by have := hS k e; have := hd k hk; omega)⟩
end Go.Proofs.YtplkplegjoabgaaGreatDoor


namespace Go.Proofs.YtplkplegjoabgaaGreatDoor
open Go.RowKit
theorem sig_wide : Wide Tryz.prog 32 3 := ⟨⟨_, Tryz.underlying32, rfl⟩, by kernel_rfl⟩
def SigR (w : World) (v : Value) (index : Int) (chain path : List (List UInt8)) : Prop := ∃ cv pv, v = .agg #[.int .i64 index, cv, pv] ∧ Digs w cv chain ∧ Digs w pv path
theorem SigR.ext {w w' : World} {v : Value} {index : Int} {chain path : List (List UInt8)} (h : SigR w v index chain path) (hE : Ext w w') : SigR w' v index chain path := by
  obtain ⟨cv, pv, h1, h2, h3⟩ := h
  exact ⟨cv, pv, h1, h2.ext hE, h3.ext hE⟩
def NewSig (B : Nat) (v : Value) : Prop := ∃ i cv pv, v = .agg #[i, cv, pv] ∧ (∀ k, cv.ownBlock = some k → B ≤ k) ∧ (∀ k, pv.ownBlock = some k → B ≤ k)
def SignPost (w : World) (index : Int) (chain path : List (List UInt8)) (e : Ending) (w' : World) : Prop := ∃ v, e = .returned (.tuple #[v, .int .i64 0]) ∧ SigR w' v index chain path ∧ Ext w w' ∧ NewSig w.heap.size v
theorem okH_cases (h : Int) (ho : okH h) : ∃ k : Nat, h = (k : Int) ∧ k ≤ 4 := ⟨h.toNat, by obtain ⟨h1, h2⟩ := ho; omega, by obtain ⟨h1, h2⟩ := ho; omega⟩
theorem valid_ok (h : Int) (ho : okH h) (w : World) : Calls Tryz.prog 88 #[.int .i64 h] w fun e w' => e = .returned (.bool true) ∧ w = w' := valid_yes h w ho
end Go.Proofs.YtplkplegjoabgaaGreatDoor


namespace Go.Proofs.YtplkplegjoabgaaGreatDoor
open Go.RowKit
end Go.Proofs.YtplkplegjoabgaaGreatDoor


namespace Go.Proofs.YtplkplegjoabgaaGreatDoor
open Go.RowKit
def bcells (l : List Bool) : List Value := l.map .bool
def Down (n0 i0 : Nat) (ss : List Bool) (n i : Nat) : Prop := i < n ∧ sidesS n0 i0 = ss ++ sidesS n i ∧ ss.length + n ≤ n0
theorem Down.left {n0 i0 n i : Nat} {ss : List Bool} (h : Down n0 i0 ss n i) (h1 : 1 < n) (hk : i < splitS n) : Down n0 i0 (ss ++ [true]) (splitS n) i := by
  have hb := splitS_bounds n h1
  obtain ⟨h2, h3, h4⟩ := h
  refine ⟨hk, by rw [h3, sidesS_left n i h1 hk, List.append_assoc]; rfl, by rw [List.length_append]; simp; omega⟩
theorem Down.stop {n0 i0 n i : Nat} {ss : List Bool} (h : Down n0 i0 ss n i) (h1 : ¬ 1 < n) : ss = sidesS n0 i0 := by
  rw [h.2.1, sidesS_one n i (by omega), List.append_nil]
structure Up (w : World) (bs : Nat) (ra : Array Value) (ps : List (List UInt8)) (pv sv : Value) (sd : List Bool) (g : Nat) (d : List UInt8) (wr : World) : Prop where
  ext : Ext w wr
  root : Blk wr w.heap.size 23 ra
  path : Digs wr pv ps
  side : Reads wr 1 sv sd.length (bcells sd)
  cell : Blk wr g 23 (d.map u8v).toArray
  lt : w.heap.size < g ∧ (0 < ps.length → ∀ k, pv.ownBlock = some k → k < g) ∧ (∀ k, sv.ownBlock = some k → k < g) ∧ bs < g
theorem Up.to {w : World} {bs : Nat} {ra : Array Value} {ps : List (List UInt8)} {pv sv : Value} {sd : List Bool} {g : Nat} {d : List UInt8} {wr wr' : World} (h : Up w bs ra ps pv sv sd g d wr) (hE : Ext wr wr') : Up w bs ra ps pv sv sd g d wr' :=
  ⟨h.ext.trans hE, h.root.ext hE, h.path.ext hE, h.side.ext hE, h.cell.ext hE, h.lt⟩
theorem Up.store {w : World} {bs : Nat} {ra : Array Value} {ps : List (List UInt8)} {pv sv : Value} {sd : List Bool} {g : Nat} {d d' : List UInt8} {wr wr' : World} (h : Up w bs ra ps pv sv sd g d wr) (hc : Chg (fun k => k = g) wr wr') (hb : Blk wr' g 23 (d'.map u8v).toArray) : Up w bs ra ps pv sv sd g d' wr' := by
  obtain ⟨l1, l2, l3, l4⟩ := h.lt
  exact ⟨h.ext.trans' hc (fun _ _ h => h) (fun i hi e => by omega), h.root.chg hc (by omega), ⟨h.path.1, h.path.2.chg hc (fun k hp hk e => by have := l2 hp k hk; omega)⟩, h.side.chg hc (fun k _ hk e => by have := l3 k hk; omega), hb, h.lt⟩
end Go.Proofs.YtplkplegjoabgaaGreatDoor


namespace Go.Proofs.YtplkplegjoabgaaGreatDoor
open Go.RowKit
structure VI (w : World) (ra ma : Array Value) (index : Int) (cv pv : Value) (W : World) : Prop where
  ext : Ext w W
  root : Blk W w.heap.size 23 ra
  msg : Blk W (w.heap.size + 1) 23 ma
  sig : Blk W (w.heap.size + 1 + 1) 32 #[.int .i64 index, cv, pv]
theorem VI.to {w : World} {ra ma : Array Value} {index : Int} {cv pv : Value} {W W' : World} (h : VI w ra ma index cv pv W) (hE : Ext W W') : VI w ra ma index cv pv W' := ⟨h.ext.trans hE, h.root.ext hE, h.msg.ext hE, h.sig.ext hE⟩
theorem VI.start (w : World) (ra ma : Array Value) (index : Int) (cv pv : Value) : VI w ra ma index cv pv (((w.alloc (.cells ra 23)).alloc (.cells ma 23)).alloc (.cells #[.int .i64 index, cv, pv] 32)) :=
  ⟨(((Ext.refl w).alloc _).alloc _).alloc _, ((Blk.new w _ _).alloc _).alloc _, (Blk.new' _ _ _ (by simp)).alloc _, Blk.new' _ _ _ (by simp)⟩
theorem VI.cells {w : World} {ra ma : Array Value} {index : Int} {cv pv : Value} {W : World} (h : VI w ra ma index cv pv W) : W.cell? ⟨w.heap.size + 1 + 1, 0, none⟩ = some (.int .i64 index) ∧ W.cell? ⟨w.heap.size + 1 + 1, 1, none⟩ = some cv ∧ W.cell? ⟨w.heap.size + 1 + 1, 2, none⟩ = some pv := ⟨by rw [h.sig.cell]; rfl, by rw [h.sig.cell]; rfl, by rw [h.sig.cell]; rfl⟩
end Go.Proofs.YtplkplegjoabgaaGreatDoor


namespace Go.Proofs.YtplkplegjoabgaaGreatDoor
open Go.RowKit
def S4 (w : World) (cv : Value) (c : List (List UInt8)) (dv : Value) (m : List UInt8) (W : World) : Prop := Ext w W ∧ Digs W cv c ∧ Reads W 1 dv 68 (icells (digC m) 68) ∧ Blk W (w.heap.size + 1) 23 (Array.replicate 16 (.int .u8 0))
theorem S4.ext {w : World} {cv : Value} {c : List (List UInt8)} {dv : Value} {m : List UInt8} {W W' : World} (h : S4 w cv c dv m W) (hE : Ext W W') : S4 w cv c dv m W' := ⟨h.1.trans hE, h.2.1.ext hE, h.2.2.1.ext hE, h.2.2.2.ext hE⟩
theorem S4.chg {w : World} {cv : Value} {c : List (List UInt8)} {dv : Value} {m : List UInt8} {W W' : World} {S : Nat → Prop} {B : Nat} (h : S4 w cv c dv m W) (hc : Chg S W W') (hS : ∀ k, S k → B ≤ k) (hB : w.heap.size + 1 < B) (hd : ∀ k, dv.ownBlock = some k → k < B) (hcv : ∀ k, cv.ownBlock = some k → k < B) : S4 w cv c dv m W' :=
  ⟨h.1.trans' hc (fun _ _ h => h.elim) (fun i hi e => by have := hS i e; omega), h.2.1.chg hc (fun k hk e => by have := hS k e; have := hcv k hk; omega), h.2.2.1.chg hc (fun k _ hk e => by have := hS k e; have := hd k hk; omega), h.2.2.2.chg hc (fun e => by have := hS _ e; omega)⟩
set_option maxRecDepth 100000 in
set_option maxHeartbeats 4000000 in
theorem rrecover_no (m : List UInt8) (c : List (List UInt8)) (cv : Value) (w : World) (hc : ¬ c.length = 68) (hD : Digs w cv c) :
    Calls Tryz.prog 41 #[.agg (m.map u8v).toArray, cv] w fun e w' => e = .returned (.tuple #[.agg (z16.map u8v).toArray, .int .i64 9]) ∧ Ext w w' := by
  obtain ⟨A, c', rfl, _, _⟩ := hD.form
  obtain ⟨arr, harr⟩ : ∃ r, (m.map u8v).toArray = r := ⟨_, rfl⟩
  rw [harr]
  clear hD harr
  have hcI : ¬ (c.length : Int) = 68 := by omega
  generalize c.length = n at *
  go_enter Tryz.func41, Tryz.ntmps41
  go_wp2
  refine bodyPost_ret (v := .tuple #[.agg (z16.map u8v).toArray, .int .i64 9]) (results_two digest_wide rfl (Blk.new' _ _ _ (by simp)) rfl rfl rfl) rfl ⟨rfl, ?_⟩
  exact ((Ext.refl w).alloc _).alloc _
set_option maxRecDepth 100000 in
set_option maxHeartbeats 4000000 in
theorem rrecover_yes (m : List UInt8) (c : List (List UInt8)) (cv : Value) (w : World) (hm : m.length = 16) (hc : c.length = 68) (hD : Digs w cv c) :
    Calls Tryz.prog 41 #[.agg (m.map u8v).toArray, cv] w fun e w' => e = .returned (.tuple #[.agg ((recoverS m (chainAt c)).map u8v).toArray, .int .i64 0]) ∧ Ext w w' := by
  have hlt := hD.own_lt (by omega)
  obtain ⟨bc, oc, c', rfl, _, _, _, _⟩ := hD.at (k := 0) (by omega)
  have HDD := hide hD
  have HLT := hide hlt
  have HDg := hide (fun (W : World) => rdigits_any m W hm)
  have HA := hide (fun k (W : World) => radv_any k (3 - digC m k) (chainAt c k) W (chainAt_length hD.1 k))
  have HW := hide (fun k (W : World) => rraw_any (advS k (chainAt c k) (3 - digC m k)) W (advS_length k _ (chainAt_length hD.1 k) _))
  have HL := hide (fun k => advS_length k _ (chainAt_length hD.1 k) (3 - digC m k))
  have HCL := hide (fun k => chainAt_length hD.1 k)
  have HG := hide (fun k (hk : k < 68) => icells_get (digC m) hk)
  have H3' := hide (digC_le m)
  have HE := hide (endsS_step (fun k => advS k (chainAt c k) (3 - digC m k)))
  have HEL := hide (endsS_length (fun k => advS k (chainAt c k) (3 - digC m k)) (unhide HL) 68)
  have HP := hide (show digestS 4 [endsS (fun k => advS k (chainAt c k) (3 - digC m k)) 68] = recoverS m (chainAt c) ∧ (recoverS m (chainAt c)).length = 16 from ⟨rfl, digestS_length _ _⟩)
  have HAT := hide (fun k (W : World) (hk : k < 68) (h : Digs W (.slice (some ⟨bc, oc, none⟩) c.length c') c) => show W.rangeAt bc (oc + k * 16) ((chainAt c k).map u8v) from by
    obtain ⟨b2, o2, c2, e, _, _, _, hr⟩ := h.at (k := k) (by omega)
    cases e
    rw [chainAt_get (by omega)]
    exact hr)
  obtain ⟨F, hF⟩ : ∃ F, endsS (fun k => advS k (chainAt c k) (3 - digC m k)) = F := ⟨_, rfl⟩
  have hF0 : F 0 = [] := by rw [← hF]; rfl
  rw [hF] at HE HEL HP
  obtain ⟨arr, harr⟩ : ∃ r, (m.map u8v).toArray = r := ⟨_, rfl⟩
  rw [harr] at HDg ⊢
  have hasz : arr.size = 16 := by rw [← harr]; simpa using hm
  obtain ⟨res, hres⟩ : ∃ r, recoverS m (chainAt c) = r := ⟨_, rfl⟩
  rw [hres] at HP ⊢
  have HD := hide (fun (W : World) (A : Option Addr) (c : Nat) (pv : Value) (h1 : Reads W 1 pv 1 [.slice A (F 68).length c]) (h2 : Reads W 1 (.slice A (F 68).length c) (F 68).length ((F 68).map u8v)) =>
    rdigest_any 4 [F 68] pv W (Parts.one h1 h2) (by simp) (fun p hp => by have := unhide HEL; simp at hp; subst hp; omega))
  rw [hc] at HDD HLT HAT ⊢
  clear harr hres hF hm hD hlt
  go_enter Tryz.func41, Tryz.ntmps41
  go_wp2_with (refine wpList_loadB (ty := 23) (t := 23) (x := .tmp 2) rfl rfl digest_wide rfl ((Blk.new w _ _).alloc _) hasz ?_)
  refine (unhide HDg _).mono ?_
  rintro e w1 ⟨A0, c0, rfl, hr1, hE1⟩
  have hol := hr1.own_lt (by omega) (by omega)
  obtain ⟨b0, o0, cc, u, hv0, _⟩ := hr1.at1 (k := 0) (by omega)
  cases hv0
  have H1 := hide (show S4 w (.slice (some ⟨bc, oc, none⟩) 68 c') c (.slice (some ⟨b0, o0, none⟩) 68 c0) m w1 from ⟨(((Ext.refl w).alloc _).alloc _).trans hE1, (unhide HDD).ext ((((Ext.refl w).alloc _).alloc _).trans hE1), hr1, (Blk.new' (w.alloc (.cells arr 23)) 23 (Array.replicate 16 (.int .u8 0)) (g := w.heap.size + 1) (by simp)).ext hE1⟩)
  have HOL := hide hol
  clear hr1 hE1 hol
  go_wp2_with fail
  go_loopw [7, 8] (fun b i wr => ∃ (k : Nat) (A : Option Addr) (c1 : Nat), k ≤ 68 ∧ i = .int .i64 k ∧ b = .slice A (16 * k) c1 ∧ Hid (GB w w1.heap.size b (16 * k) (F k) wr ∧ S4 w (.slice (some ⟨bc, oc, none⟩) 68 c') c (.slice (some ⟨b0, o0, none⟩) 68 c0) m wr)) (fun _ i _ => 68 - (intOf i).toNat)
  case atStart => exact ⟨0, none, 0, by omega, rfl, rfl, hide ⟨by rw [hF0]; exact GB.nil (unhide H1).1 (unhide H1).1.size' (Nat.le_refl _), unhide H1⟩⟩
  case round =>
    obtain ⟨k, A, c1, hk, rfl, rfl, HI⟩ := hrel
    by_cases hlt : k < 68
    · have HF : Hid (∀ W, S4 w (.slice (some ⟨bc, oc, none⟩) 68 c') c (.slice (some ⟨b0, o0, none⟩) 68 c0) m W → W.cell? ⟨b0, o0 + k, none⟩ = some (.int .i64 ((digC m k : Nat) : Int))) := hide (fun W hW => hW.2.2.1.at_ (unhide HG k hlt))
      have HAT' := hide (fun (W : World) (h : S4 w (.slice (some ⟨bc, oc, none⟩) 68 c') c (.slice (some ⟨b0, o0, none⟩) 68 c0) m W) => unhide HAT k W hlt h.2.1)
      have HAk := hide (fun W => unhide HA k W (by omega) (by omega))
      have HWk := hide (unhide HW k)
      have HLk := hide (unhide HL k)
      have HCk := hide (show ((chainAt c k).map u8v).length = 16 from by rw [List.length_map]; exact unhide HCL k)
      have HEk := hide (unhide HE k)
      have h3 := unhide H3' k
      have e3 : IntKind.i64.wrap (3 - ((digC m k : Nat) : Int)) = ((3 - digC m k : Nat) : Int) := by rw [IntKind.wrap_i64]; omega
      generalize hd : advS k (chainAt c k) (3 - digC m k) = d at *
      generalize digC m k = dk at *
      generalize hst : (chainAt c k).map u8v = st at *
      generalize 3 - dk = sk at *
      have hkI : (k : Int) < 68 := by omega
      clear hd hst
      go_upto_region 8 with fail
      refine wp_region_held_drew (S := S4 w (.slice (some ⟨bc, oc, none⟩) 68 c') c (.slice (some ⟨b0, o0, none⟩) 68 c0) m) (by kernel_rfl) ((unhide HI).2.ext ((Ext.refl _).drew)) (fun hHeld => ?_)
      refine wpAnyH_take (i := 0) (oi := _) (v := ?_) rfl (by kernel_rfl) (by kernel_rfl) (by kernel_rfl) (fun _ _ _ h => h) (Or.inl ⟨by rfl, fun wz hSz => ?_⟩) (by assumption) ?_
      rotate_left
      · (first | (go_simp; done) | (go_simp; with_reducible rfl) | (obtain f1 := (unhide HF) wz hSz; clear hSz; first | (go_simp; done) | (go_simp; with_reducible rfl)))
      try simp only [Act.put, List.setIfInBounds_toArray, List.set_cons_zero, List.set_cons_succ, List.getElem_toArray, List.getElem_cons_zero]
      refine wpAnyH_take (i := 1) (oi := _) (v := ?_) rfl (by kernel_rfl) (by kernel_rfl) (by kernel_rfl) (fun _ _ _ h => h) (Or.inl ⟨by rfl, fun wz hSz => ?_⟩) (by assumption) ?_
      rotate_left
      · (first | (go_simp; done) | (go_simp; with_reducible rfl) | (obtain f1 := (unhide HF) wz hSz; clear hSz; first | (go_simp; done) | (go_simp; with_reducible rfl)))
      try simp only [Act.put, List.setIfInBounds_toArray, List.set_cons_zero, List.set_cons_succ, List.getElem_toArray, List.getElem_cons_succ, List.getElem_cons_zero]
      refine wpAnyH_take (i := 2) (oi := _) (v := ?_) rfl (by kernel_rfl) (by kernel_rfl) (by kernel_rfl) (fun _ _ _ h => h) (Or.inl ⟨by rfl, fun wz hSz => ?_⟩) (by assumption) ?_
      rotate_left
      · (first | (go_simp; done) | (go_simp; with_reducible rfl) | (obtain f1 := (unhide HF) wz hSz; clear hSz; first | (go_simp; done) | (go_simp; with_reducible rfl)))
      try simp only [Act.put, List.setIfInBounds_toArray, List.set_cons_zero, List.set_cons_succ, List.getElem_toArray, List.getElem_cons_succ, List.getElem_cons_zero]
      refine wpAnyH_take (i := 3) (oi := _) (v := ?_) rfl (by kernel_rfl) (by kernel_rfl) (by kernel_rfl) (fun _ _ _ h => h) (Or.inl ⟨by rfl, fun wz hSz => ?_⟩) (by assumption) ?_
      rotate_left
      · (first | (go_simp; done) | (go_simp; with_reducible rfl) | (obtain f1 := (unhide HF) wz hSz; clear hSz; first | (go_simp; done) | (go_simp; with_reducible rfl)))
      try simp only [Act.put, List.setIfInBounds_toArray, List.set_cons_zero, List.set_cons_succ, List.getElem_toArray, List.getElem_cons_succ, List.getElem_cons_zero]
      refine wpAnyH_take (i := 4) (oi := _) (v := ?_) rfl (by kernel_rfl) (by kernel_rfl) (by kernel_rfl) (fun _ _ _ h => h) (Or.inl ⟨by rfl, fun wz hSz => ?_⟩) (by assumption) ?_
      rotate_left
      · (first | (go_simp; done) | (go_simp; with_reducible rfl) | (obtain f1 := (unhide HF) wz hSz; clear hSz; first | (go_simp; done) | (go_simp; with_reducible rfl)))
      try simp only [Act.put, List.setIfInBounds_toArray, List.set_cons_zero, List.set_cons_succ, List.getElem_toArray, List.getElem_cons_succ, List.getElem_cons_zero]
      refine wpAnyH_take (i := 5) (oi := _) (v := _) rfl (by kernel_rfl) (by kernel_rfl) (by kernel_rfl) (fun _ _ _ h => h) (ylm digest_wide rfl (by rfl) rfl (unhide HCk) (fun w' hw => unhide HAT' w' hw)) (by assumption) ?_
      try simp only [Act.put, List.setIfInBounds_toArray, List.set_cons_zero, List.set_cons_succ, List.getElem_toArray, List.getElem_cons_succ, List.getElem_cons_zero]
      refine wpAnyH_take (i := 6) (oi := _) (v := ?_) rfl (by kernel_rfl) (by kernel_rfl) (by kernel_rfl) (fun _ _ _ h => h) (Or.inl ⟨by rfl, fun wz hSz => ?_⟩) (by assumption) ?_
      rotate_left
      · (first | (go_simp; done) | (go_simp; with_reducible rfl) | (obtain f1 := (unhide HF) wz hSz; clear hSz; first | (go_simp; done) | (go_simp; with_reducible rfl)))
      try simp only [Act.put, List.setIfInBounds_toArray, List.set_cons_zero, List.set_cons_succ, List.getElem_toArray, List.getElem_cons_succ, List.getElem_cons_zero]
      refine wpAnyH_take (i := 7) (oi := _) (v := ?_) rfl (by kernel_rfl) (by kernel_rfl) (by kernel_rfl) (fun _ _ _ h => h) (Or.inl ⟨by rfl, fun wz hSz => ?_⟩) (by assumption) ?_
      rotate_left
      · (first | (go_simp; done) | (go_simp; with_reducible rfl) | (obtain f1 := (unhide HF) wz hSz; clear hSz; first | (go_simp; done) | (go_simp; with_reducible rfl)))
      try simp only [Act.put, List.setIfInBounds_toArray, List.set_cons_zero, List.set_cons_succ, List.getElem_toArray, List.getElem_cons_succ, List.getElem_cons_zero]
      refine wpAnyH_take (i := 8) (oi := _) (v := ?_) rfl (by kernel_rfl) (by kernel_rfl) (by kernel_rfl) (fun _ _ _ h => h) (Or.inl ⟨by rfl, fun wz hSz => ?_⟩) (by assumption) ?_
      rotate_left
      · (first | (go_simp; done) | (go_simp; with_reducible rfl) | (obtain f1 := (unhide HF) wz hSz; clear hSz; first | (go_simp; done) | (go_simp; with_reducible rfl)))
      try simp only [Act.put, List.setIfInBounds_toArray, List.set_cons_zero, List.set_cons_succ, List.getElem_toArray, List.getElem_cons_succ, List.getElem_cons_zero]
      refine wpAnyH_take (i := 9) (oi := _) (v := ?_) rfl (by kernel_rfl) (by kernel_rfl) (by kernel_rfl) (fun _ _ _ h => h) (Or.inl ⟨by rfl, fun wz hSz => ?_⟩) (by assumption) ?_
      rotate_left
      · (first | (go_simp; done) | (go_simp; with_reducible rfl) | (obtain f1 := (unhide HF) wz hSz; clear hSz; first | (go_simp; done) | (go_simp; with_reducible rfl)))
      try simp only [Act.put, List.setIfInBounds_toArray, List.set_cons_zero, List.set_cons_succ, List.getElem_toArray, List.getElem_cons_succ, List.getElem_cons_zero]
      refine wpAnyH_take (i := 10) (oi := _) (v := ?_) rfl (by kernel_rfl) (by kernel_rfl) (by kernel_rfl) (fun _ _ _ h => h) (Or.inl ⟨by rfl, fun wz hSz => ?_⟩) (by assumption) ?_
      rotate_left
      · (first | (go_simp; done) | (go_simp; with_reducible rfl) | (obtain f1 := (unhide HF) wz hSz; clear hSz; first | (go_simp; done) | (go_simp; with_reducible rfl)))
      try simp only [Act.put, List.setIfInBounds_toArray, List.set_cons_zero, List.set_cons_succ, List.getElem_toArray, List.getElem_cons_succ, List.getElem_cons_zero]
      refine wpAnyH_ready (rs := [11]) (by kernel_rfl) (by simp) (AllReadyH.cons (o := _) rfl (fun K hK => ?_) AllReadyH.nil)
      try go_simp
      (refine (unhide HAk _).mono ?_; rintro e w2 ⟨rfl, hE2⟩; have hS := hHeld.ext hE2; have H2 := hide (((Ext.refl wr).drew).trans hE2); clear hHeld hE2)
      refine hK.out _ _ ?_ (fun hHeld => ?_)
      · exact hS
      clear hK K
      try simp only [Act.put, List.setIfInBounds_toArray, List.set_cons_zero, List.set_cons_succ, List.getElem_toArray, List.getElem_cons_succ, List.getElem_cons_zero]
      refine wpAnyH_ready (rs := [12]) (by kernel_rfl) (by simp) (AllReadyH.cons (o := _) rfl (fun K hK => ?_) AllReadyH.nil)
      try go_simp
      (refine (unhide HWk _).mono ?_; rintro e w4 ⟨A4, c4, rfl, ho4, hE4⟩; have hS := hHeld.ext hE4; have H4 := hide (And.intro ho4 ((unhide H2).trans hE4)); clear hHeld hE4 H2 ho4)
      refine hK.out _ _ ?_ (fun hHeld => ?_)
      · exact hS
      clear hK K
      try simp only [Act.put, List.setIfInBounds_toArray, List.set_cons_zero, List.set_cons_succ, List.getElem_toArray, List.getElem_cons_succ, List.getElem_cons_zero]
      refine wpAnyH_ready (rs := [13]) (by kernel_rfl) (by simp) (AllReadyH.cons (o := _) rfl (fun K hK => ?_) AllReadyH.nil)
      (refine step_app rfl rfl u8_row rfl ((unhide HI).1.to (unhide H4).2).own rfl (unhide H4).1 (AllOne.u8 d) (by have := unhide HLk; omega) ((unhide HI).1.to (unhide H4).2).room ?_; intro A' c5 w5 ho hc5 hv; have hS := hHeld.chg (B := w1.heap.size) hc5 (fun j hj => ((unhide HI).1.own.lt j hj).1) (unhide H1).2.2.2.lt (unhide HOL) (fun j hj => by have := unhide HLT j hj; have := (unhide H1).1.size'; omega); have H5 := hide ((unhide HI).1.step (unhide H4).2 hc5 (l' := F k ++ d) (by rw [List.map_append]; exact ho)); clear ho hc5 hv hHeld)
      refine hK.out _ _ ?_ (fun hHeld => ?_)
      · exact hS
      clear hK K
      try simp only [Act.put, List.setIfInBounds_toArray, List.set_cons_zero, List.set_cons_succ, List.getElem_toArray, List.getElem_cons_succ, List.getElem_cons_zero]
      refine wpAnyH_take (i := 14) (oi := _) (v := ?_) rfl (by kernel_rfl) (by kernel_rfl) (by kernel_rfl) (fun _ _ _ h => h) (Or.inl ⟨by rfl, fun wz hSz => ?_⟩) (by assumption) ?_
      rotate_left
      · (first | (go_simp; done) | (go_simp; with_reducible rfl) | (obtain f1 := (unhide HF) wz hSz; clear hSz; first | (go_simp; done) | (go_simp; with_reducible rfl)))
      try simp only [Act.put, List.setIfInBounds_toArray, List.set_cons_zero, List.set_cons_succ, List.getElem_toArray, List.getElem_cons_succ, List.getElem_cons_zero]
      refine wpAnyH_done (by kernel_rfl) ?_ _
      have H6 := hide hHeld
      clear hHeld
      go_wp2
      go_roundw
      case rel =>
        have e16 : 16 * k + d.length = 16 * (k + 1) := by have := unhide HLk; omega
        refine ⟨k + 1, A', c5, by omega, by go_num, by rw [e16], hide ⟨?_, unhide H6⟩⟩
        rw [unhide HEk, ← e16]
        exact unhide H5
      case measure => simp [intOf]; omega
    · obtain rfl : k = 68 := by omega
      have HX := hide (show GB w w1.heap.size (.slice A (F 68).length c1) (F 68).length (F 68) wr from by rw [unhide HEL]; exact (unhide HI).1)
      have HZ2 := hide (unhide HI).2.2.2.2
      have e68 : 16 * 68 = (F 68).length := (unhide HEL).symm
      rw [e68]
      clear HI e68
      go_wp2_with (first
        | (go_at_call 72; refine (unhide HD _ A c1 _ (Reads.new1 _ _ _) ((unhide HX).reads.ext ((Ext.refl _).alloc _))).mono ?_; rintro e w5 ⟨rfl, hE5⟩; rw [(unhide HP).1]; have H5 := hide (((Ext.refl wr).alloc _).trans hE5); clear hE5)
        | (refine wpList_storeB (ty := 23) (t := 23) (x := .tmp 4) (y := .tmp 35) rfl rfl digest_wide rfl rfl ((unhide HZ2).ext (unhide H5)) rfl (by simpa using (unhide HP).2) (bytes_one _) ?_; intro w7 hb7 hc7 hz7; have H7 := hide (And.intro hb7 hc7); clear hb7 hc7 hz7))
      refine bodyPost_ret (v := .tuple #[.agg (res.map u8v).toArray, .int .i64 0]) (results_two digest_wide rfl (unhide H7).1 (by simpa using (unhide HP).2) rfl rfl) rfl ⟨rfl, ?_⟩
      exact ((unhide HX).ext.trans (unhide H5)).trans' (unhide H7).2 (fun _ _ h => h) (fun i hi e => by omega)
end Go.Proofs.YtplkplegjoabgaaGreatDoor
