
/-
  A region that draws its order, by facts: each operation but the last ones has a fact of the value that it leaves; whatever the order, it holds when its turn comes. Plain: no function of the program is named here.
-/
import Derived.Test.YtoefmncdloffaaaDoorBase
import Derived.StillTail
import Derived.RegionTactic
namespace Go.Proofs.YtoefmncdloffaaaDoor
open Go.RowKit

def upd (xs : Nat → Value) (i : Nat) (v : Value) : Nat → Value := fun j => if j = i then v else xs j
def putL : List (Option Nat) → Nat → (Nat → Value) → Array Value → Array Value
  | [], _, _, t => t
  | none :: ds, k, xs, t => putL ds (k + 1) xs t
  | some d :: ds, k, xs, t => putL ds (k + 1) xs (t.setIfInBounds d (xs k))
/-- The frame with what the operations have left. -/
def setAll (a : Act) (ds : List (Option Nat)) (xs : Nat → Value) : Act := { a with tmps := putL ds 0 xs a.tmps }
def NodupD : List (Option Nat) → Prop
  | [] => True
  | none :: ds => NodupD ds
  | some d :: ds => some d ∉ ds ∧ NodupD ds
def nodupB : List (Option Nat) → Bool
  | [] => true
  | none :: ds => nodupB ds
  | some d :: ds => !(ds.contains (some d)) && nodupB ds
theorem nodup_of : ∀ {ds : List (Option Nat)}, nodupB ds = true → NodupD ds
  | [], _ => trivial
  | none :: ds, h => nodup_of (ds := ds) h
  | some d :: ds, h => by
    rw [nodupB, Bool.and_eq_true] at h
    exact ⟨by simpa using h.1, nodup_of h.2⟩

theorem putL_set (v : Value) (d : Nat) (xs : Nat → Value) : ∀ (ds : List (Option Nat)) (k : Nat) (t : Array Value), some d ∉ ds → putL ds k xs (t.setIfInBounds d v) = (putL ds k xs t).setIfInBounds d v
  | [], _, _, _ => rfl
  | none :: ds, k, t, h => putL_set v d xs ds (k + 1) t (fun h2 => h (List.mem_cons_of_mem _ h2))
  | some e :: ds, k, t, h => by
    rw [putL, putL, ← putL_set v d xs ds (k + 1) _ (fun h2 => h (List.mem_cons_of_mem _ h2))]
    have hne : d ≠ e := fun he => h (by rw [he]; exact List.mem_cons_self)
    rw [Array.setIfInBounds_comm _ _ hne]
theorem putL_upd_lt (v : Value) (i : Nat) (xs : Nat → Value) : ∀ (ds : List (Option Nat)) (k : Nat) (t : Array Value), i < k → putL ds k (upd xs i v) t = putL ds k xs t
  | [], _, _, _ => rfl
  | none :: ds, k, t, h => putL_upd_lt v i xs ds (k + 1) t (by omega)
  | some e :: ds, k, t, h => by
    rw [putL, putL, show upd xs i v k = xs k from if_neg (by omega), putL_upd_lt v i xs ds (k + 1) _ (by omega)]
theorem putL_upd (v : Value) (xs : Nat → Value) (d : Nat) : ∀ (ds : List (Option Nat)) (k i : Nat) (t : Array Value), NodupD ds → ds[i]? = some (some d) → putL ds k (upd xs (k + i) v) t = (putL ds k xs t).setIfInBounds d v
  | [], _, _, _, _, h => by simp at h
  | none :: ds, k, 0, t, hn, h => by simp at h
  | some e :: ds, k, 0, t, hn, h => by
    obtain rfl : e = d := by simpa using h
    rw [Nat.add_zero, putL, putL, putL_upd_lt v k xs ds (k + 1) _ (by omega), show upd xs k v k = v from if_pos rfl, ← putL_set v e xs ds (k + 1) _ hn.1, Array.setIfInBounds_setIfInBounds]
  | none :: ds, k, i + 1, t, hn, h => by
    rw [putL, putL, show k + (i + 1) = (k + 1) + i from by omega]
    exact putL_upd v xs d ds (k + 1) i _ hn (by simpa using h)
  | some e :: ds, k, i + 1, t, hn, h => by
    rw [putL, putL, show upd xs (k + (i + 1)) v k = xs k from if_neg (by omega), show k + (i + 1) = (k + 1) + i from by omega]
    exact putL_upd v xs d ds (k + 1) i _ hn.2 (by simpa using h)
theorem putL_upd_none (v : Value) (xs : Nat → Value) : ∀ (ds : List (Option Nat)) (k i : Nat) (t : Array Value), ds[i]? = some none → putL ds k (upd xs (k + i) v) t = putL ds k xs t
  | [], _, _, _, h => by simp at h
  | none :: ds, k, 0, t, h => by rw [Nat.add_zero, putL, putL, putL_upd_lt v k xs ds (k + 1) _ (by omega)]
  | some e :: ds, k, 0, t, h => by simp at h
  | none :: ds, k, i + 1, t, h => by
    rw [putL, putL, show k + (i + 1) = (k + 1) + i from by omega]
    exact putL_upd_none v xs ds (k + 1) i _ (by simpa using h)
  | some e :: ds, k, i + 1, t, h => by
    rw [putL, putL, show upd xs (k + (i + 1)) v k = xs k from if_neg (by omega), show k + (i + 1) = (k + 1) + i from by omega]
    exact putL_upd_none v xs ds (k + 1) i _ (by simpa using h)
theorem setAll_put (a : Act) (ds : List (Option Nat)) (xs : Nat → Value) (i : Nat) (d : Option Nat) (v : Value) (hn : NodupD ds) (h : ds[i]? = some d) : (setAll a ds xs).put d v = setAll a ds (upd xs i v) := by
  cases d with
  | none =>
    have := putL_upd_none v xs ds 0 i a.tmps h
    rw [Nat.zero_add] at this
    unfold setAll Act.put
    rw [this]
  | some d =>
    have := putL_upd v xs d ds 0 i a.tmps hn h
    rw [Nat.zero_add] at this
    unfold setAll Act.put
    rw [this]
theorem putL_self (xs : Nat → Value) : ∀ (ds : List (Option Nat)) (k : Nat) (t : Array Value), (∀ i d, ds[i]? = some (some d) → t.getD d undef = xs (k + i)) → putL ds k xs t = t
  | [], _, _, _ => rfl
  | none :: ds, k, t, h => putL_self xs ds (k + 1) t fun i d hd => by rw [h (i + 1) d (by simpa using hd)]; congr 1; omega
  | some d :: ds, k, t, h => by
    have h0 := h 0 d rfl
    have e : t.setIfInBounds d (xs k) = t := by
      rw [Nat.add_zero] at h0
      rw [← h0]
      apply Array.ext_getElem?
      intro j
      by_cases hj : d = j
      · subst hj
        by_cases hd : d < t.size
        · simp [hd]
        · rw [Array.getElem?_eq_none (by simpa using hd), Array.getElem?_eq_none (by simpa using hd)]
      · rw [Array.getElem?_setIfInBounds_ne hj]
    rw [putL, e, putL_self xs ds (k + 1) t fun i d hd => by rw [h (i + 1) d (by simpa using hd)]; congr 1; omega]
theorem setAll_self (a : Act) (ds : List (Option Nat)) : setAll a ds (fun i => a.tmps.getD ((ds.getD i none).getD 0) undef) = a := by
  unfold setAll
  rw [putL_self]
  intro i d hd
  simp [List.getD_eq_getElem?_getD, hd]

section
variable {P : Program} {ops : Array Oper} {md : Region.Mode} {Q : Exit → Act → World → Prop}

def backB (md : Region.Mode) (ops : Array Oper) : Bool := (List.range ops.size).all fun i => match ops[i]? with | some o => o.after.all (fun e => !Region.binds md e || decide (e.on < i)) | none => true
def headAll (m n : Nat) : Array Bool := (Array.replicate m true) ++ (Array.replicate (n - m) false)
theorem headAll_of {listed : Array Bool} {m n : Nat} (hm : m ≤ n) (hs : listed.size = n) (h1 : ∀ i, i < m → listed.getD i false = true) (h2 : ∀ i, m ≤ i → i < n → listed.getD i true = false) : listed = headAll m n := by
  unfold headAll
  apply Array.ext
  · simp; omega
  · intro i h3 h4
    rw [Array.getElem_append]
    split
    · rename_i h
      have := h1 i (by simpa using h)
      rw [Array.getD_eq_getD_getElem?, Array.getElem?_eq_getElem h3] at this
      simpa using this
    · rename_i h
      have := h2 i (by simpa using h) (by omega)
      rw [Array.getD_eq_getD_getElem?, Array.getElem?_eq_getElem h3] at this
      simpa using this

theorem count_set {listed : Array Bool} {i : Nat} (h : listed.getD i true = false) : (listed.setIfInBounds i true).toList.count false + 1 = listed.toList.count false := by
  have hi : i < listed.size := by
    rcases Nat.lt_or_ge i listed.size with h' | h'
    · exact h'
    · simp [Array.getElem?_eq_none h'] at h
  have hv : listed.toList[i]'(by simpa using hi) = false := by
    rw [Array.getD_eq_getD_getElem?, Array.getElem?_eq_getElem hi] at h
    simpa using h
  rw [Array.toList_setIfInBounds, List.count_set (by simpa using hi), hv]
  have : 0 < listed.toList.count false := List.count_pos_iff.2 (hv ▸ List.getElem_mem _)
  rw [if_pos (by rfl), if_neg (by decide)]
  omega
theorem count_zero {listed : Array Bool} (h : listed.toList.count false = 0) : ∀ i, i < listed.size → listed.getD i false = true := by
  intro i hi
  have h1 := List.count_eq_zero.1 h
  have h2 : listed.toList[i]'(by simpa using hi) ≠ false := fun e => h1 (e ▸ List.getElem_mem _)
  rw [Array.getD_eq_getD_getElem?, Array.getElem?_eq_getElem hi]
  simpa using h2
theorem count_head (m n : Nat) : (headAll m n).toList.count false = n - m := by
  unfold headAll
  simp [List.count_replicate]

/-- k is listed when i comes up (f steps back at most). -/
def ancB (md : Region.Mode) (ops : Array Oper) : Nat → Nat → Nat → Bool
  | 0, _, _ => false
  | f + 1, i, k => Region.waitsFor md ops i k || (List.range ops.size).any fun j => Region.waitsFor md ops i j && ancB md ops f j k
/-- Operation i has the value of j among its operands. -/
def needB (md : Region.Mode) (ops : Array Oper) (i j : Nat) : Bool :=
  match ops[i]? with
  | some oi => oi.after.any fun e => (Region.binds md e && e.on == j) && (match e.ground with | .data => true | _ => false)
  | none => false
theorem need_waits {md : Region.Mode} {ops : Array Oper} {i j : Nat} (h : needB md ops i j = true) : Region.waitsFor md ops i j = true := by
  unfold needB at h
  unfold Region.waitsFor
  split at h
  · rename_i oi ho
    obtain ⟨e, he, hb⟩ := Array.any_eq_true'.1 h
    rw [ho]
    rw [Bool.and_eq_true] at hb
    exact Array.any_eq_true'.2 ⟨e, he, hb.1⟩
  · cases h
/-- The fact of j is still of use behind operation i. -/
def keepB (md : Region.Mode) (ops : Array Oper) (out : List Nat) (i j : Nat) : Bool := out.contains j || (List.range ops.size).any fun k => (needB md ops k j && !(k == i)) && !ancB md ops 4 i k
/-- The fact of j stands while i has not come up: some operation that waits for i has it among its operands. -/
def availB (md : Region.Mode) (ops : Array Oper) (out : List Nat) (i j : Nat) : Bool := out.contains j || (List.range ops.size).any fun k => needB md ops k j && Region.waitsFor md ops k i
def Closed (md : Region.Mode) (ops : Array Oper) (listed : Array Bool) : Prop := ∀ j oj, ops[j]? = some oj → listed.getD j false = true → ∀ e ∈ oj.after, Region.binds md e = true → listed.getD e.on false = true
theorem anc_listed {listed : Array Bool} (hc : Closed md ops listed) : ∀ (f i k : Nat), (∀ j, Region.waitsFor md ops i j = true → listed.getD j false = true) → ancB md ops f i k = true → listed.getD k false = true
  | 0, _, _, _, h => by cases h
  | f + 1, i, k, hd, h => by
    rw [ancB, Bool.or_eq_true, List.any_eq_true] at h
    rcases h with h | ⟨j, _, h⟩
    · exact hd k h
    · rw [Bool.and_eq_true] at h
      refine anc_listed hc f j k (fun j' hj' => ?_) h.2
      obtain ⟨oj, hoj, e, he, hbd, rfl⟩ := Region.waitsFor_spec hj'
      exact hc j oj hoj (hd j h.1) e he hbd

/-- What is kept while the first m operations come up: which are listed, their values, the world. -/
structure FactsAt (md : Region.Mode) (ops : Array Oper) (m : Nat) (out : List Nat) (B : (Nat → Bool) → (Nat → Value) → World → Prop) (link : Nat → Nat) (F : Nat → Value → Value → World → Prop) (listed : Array Bool) (xs : Nat → Value) (w : World) : Prop where
  size : listed.size = ops.size
  closed : Closed md ops listed
  tail : ∀ t, m ≤ t → t < ops.size → listed.getD t true = false
  base : B (fun i => listed.getD i false) xs w
  facts : ∀ i, i < m → listed.getD i false = true → (out.contains i = true ∨ ∃ k, k < ops.size ∧ needB md ops k i = true ∧ listed.getD k false = false) → F i (xs i) (xs (link i)) w

theorem ready_least (hb : backB md ops = true) {listed : Array Bool} (hs : listed.size = ops.size) : ∀ (n i : Nat), i < n → i < ops.size → listed.getD i true = false → Region.ready md ops listed ≠ []
  | 0, i, h, _, _ => by omega
  | n + 1, i, h, hi, hu => by
    intro h0
    by_cases hr : i ∈ Region.ready md ops listed
    · rw [h0] at hr; cases hr
    · apply hr
      rw [mem_ready]
      refine ⟨hu, ops[i], Array.getElem?_eq_getElem hi, fun e he hbd => ?_⟩
      have h1 := List.all_eq_true.1 hb i (List.mem_range.2 hi)
      rw [Array.getElem?_eq_getElem hi] at h1
      simp only [Array.all_eq_true_iff_forall_mem] at h1
      have h2 := h1 e he
      simp [hbd] at h2
      cases hl : listed.getD e.on false with
      | true => rfl
      | false => exact absurd h0 (ready_least hb hs n e.on (by omega) (by omega) (getD_in (by omega) hl))

/-- A fact may speak of the value of one operation that its own waits for. -/
def linkB (md : Region.Mode) (ops : Array Oper) (m : Nat) (link : Nat → Nat) : Bool := (List.range m).all fun i => (link i == i) || Region.waitsFor md ops i (link i)
theorem wpAny_facts (m : Nat) (ds : List (Option Nat)) (out : List Nat) (a0 : Act) (B : (Nat → Bool) → (Nat → Value) → World → Prop) (link : Nat → Nat) (F : Nat → Value → Value → World → Prop)
    (hm : m ≤ ops.size) (hds : ∀ i o, i < m → ops[i]? = some o → ds[i]? = some o.dst) (hnd : NodupD ds) (hlk : linkB md ops m link = true)
    (hb : backB md ops = true) (hsink : m = ops.size ∨ (Region.sinkB md ops m = true ∧ Region.chainB md ops m = true ∧ m < ops.size))
    (hstep : ∀ i o, i < m → ops[i]? = some o → ∀ (L : Nat → Bool) (xs : Nat → Value) (w : World) (K : Act → World → Prop), B L xs w → (∀ a b, L a = true → Region.waitsFor md ops a b = true → L b = true) → L i = false → (∀ j, j < m → needB md ops i j = true → L j = true ∧ F j (xs j) (xs (link j)) w) → (∀ j, j < m → j ≠ i → L j = true → availB md ops out i j = true → F j (xs j) (xs (link j)) w) → (∀ v w', F i v (upd xs i v (link i)) w' → (∀ j, j < m → j ≠ i → L j = true → keepB md ops out i j = true → F j (xs j) (xs (link j)) w → F j (xs j) (xs (link j)) w') → B (fun j => if j = i then true else L j) (upd xs i v) w' → K ((setAll a0 ds xs).put o.dst v) w') →
      if Region.wanted o (yielded ops (setAll a0 ds xs).tmps) = true then Oper.wp P o (setAll a0 ds xs) w K Q else K ((setAll a0 ds xs).put o.dst undef) w)
    (hend : ∀ (L : Nat → Bool) (xs : Nat → Value) (w : World), (∀ i, i < m → L i = true) → B L xs w → (∀ i, i < m → out.contains i = true → F i (xs i) (xs (link i)) w) → wpAny P md ops Q (ops.size - m) (headAll m ops.size) (setAll a0 ds xs) w) :
    ∀ (fuel : Nat) (listed : Array Bool) (xs : Nat → Value) (w : World), fuel = listed.toList.count false → FactsAt md ops m out B link F listed xs w → wpAny P md ops Q fuel listed (setAll a0 ds xs) w := by
  intro fuel
  induction fuel with
  | zero =>
    intro listed xs w hf h
    have hall := count_zero hf.symm
    have hme : m = ops.size := by
      rcases Nat.lt_or_ge m ops.size with hlt | hge
      · have h1 := h.tail m (Nat.le_refl _) hlt
        have h2 := hall m (by rw [h.size]; exact hlt)
        rw [getD_both h1] at h2
        cases h2
      · omega
    have hl : listed = headAll m ops.size := headAll_of hm h.size (fun i hi => hall i (by rw [h.size]; omega)) h.tail
    have h3 := hend _ xs w (fun i hi => hall i (by rw [h.size]; omega)) h.base fun i hi ho => h.facts i hi (hall i (by rw [h.size]; omega)) (.inl ho)
    rw [← hl, hme, Nat.sub_self] at h3
    exact h3
  | succ fuel ih =>
    intro listed xs w hf h
    by_cases hall : ∀ i, i < m → listed.getD i false = true
    · have hl : listed = headAll m ops.size := headAll_of hm h.size hall h.tail
      have h3 := hend _ xs w hall h.base fun i hi ho => h.facts i hi (hall i hi) (.inl ho)
      have h4 : fuel + 1 = ops.size - m := by rw [hf, hl, count_head]
      rw [← hl, ← h4] at h3
      exact h3
    · obtain ⟨i0, hi0⟩ := Classical.not_forall.1 hall
      obtain ⟨hi0m, hi0u⟩ := Classical.not_imp.1 hi0
      have hi0u' : listed.getD i0 true = false := getD_in (by rw [h.size]; omega) (by simpa using hi0u)
      refine ⟨fun h0 => absurd h0 (ready_least hb h.size (i0 + 1) i0 (by omega) (by omega) hi0u'), fun i hi => ?_⟩
      obtain ⟨hiu, o, ho, hdeps⟩ := mem_ready.1 hi
      have hilt : i < ops.size := (Array.getElem?_eq_some_iff.1 ho).1
      have him : i < m := by
        rcases hsink with rfl | ⟨hs, hc, hlt⟩
        · exact hilt
        · rcases Nat.lt_or_ge i m with h' | h'
          · exact h'
          · exact absurd hi (tail_waits hs hc hlt ⟨h.size, h.closed, h.tail⟩ _ i0 rfl hi0m hi0u' i h')
      have hdi := hds i o him ho
      have hdl : ∀ j, Region.waitsFor md ops i j = true → listed.getD j false = true := fun j hwt => by
        obtain ⟨oj, hoj, e, he, hbd, rfl⟩ := Region.waitsFor_spec hwt
        have : oj = o := Option.some.inj (hoj.symm.trans ho)
        subst this
        exact hdeps e he hbd
      have hnext : ∀ v w', F i v (upd xs i v (link i)) w' → (∀ j, j < m → j ≠ i → listed.getD j false = true → keepB md ops out i j = true → F j (xs j) (xs (link j)) w → F j (xs j) (xs (link j)) w') → B (fun j => if j = i then true else listed.getD j false) (upd xs i v) w' → wpAny P md ops Q fuel (listed.setIfInBounds i true) ((setAll a0 ds xs).put o.dst v) w' := by
        intro v w' h1 h2 h3
        rw [setAll_put a0 ds xs i o.dst v hnd hdi]
        refine ih _ _ _ ?_ ⟨by simp [h.size], fun j oj hj hl e he hbd => ?_, fun t ht ht' => ?_, ?_, fun j hj hl hu => ?_⟩
        · have := count_set hiu; omega
        · by_cases hij : i = j
          · subst hij
            have : oj = o := Option.some.inj (hj.symm.trans ho)
            subst this
            exact getD_set_true (hdeps e he hbd)
          · rw [getD_set_ne false hij] at hl
            exact getD_set_true (h.closed j oj hj hl e he hbd)
        · rw [getD_set_ne true (by omega)]
          exact h.tail t ht ht'
        · have he : (fun j => (listed.setIfInBounds i true).getD j false) = fun j => if j = i then true else listed.getD j false := funext fun j => by
            by_cases hij : j = i
            · subst hij
              rw [if_pos rfl, Array.getD_eq_getD_getElem?]
              simp [h.size, hilt]
            · rw [if_neg hij, getD_set_ne false (fun e => hij e.symm)]
          rw [he]
          exact h3
        · by_cases hij : i = j
          · subst hij
            rw [show upd xs i v i = v from if_pos rfl]
            exact h1
          · have hlj : upd xs i v (link j) = xs (link j) := if_neg (fun e => by
              have hj2 := List.all_eq_true.1 hlk j (List.mem_range.2 hj)
              rw [Bool.or_eq_true] at hj2
              rcases hj2 with hj2 | hj2
              · have : link j = j := by simpa using hj2
                exact hij (e.symm.trans this)
              · rw [e] at hj2
                rw [getD_set_ne false hij] at hl
                obtain ⟨oj, hoj, e2, he2, hbd, hon⟩ := Region.waitsFor_spec hj2
                have := h.closed j oj hoj hl e2 he2 hbd
                rw [hon, getD_both hiu] at this
                cases this)
            rw [hlj, show upd xs i v j = xs j from if_neg (fun e => hij e.symm)]
            rw [getD_set_ne false hij] at hl
            have hu' : out.contains j = true ∨ ∃ k, k < ops.size ∧ needB md ops k j = true ∧ k ≠ i ∧ listed.getD k false = false := by
              rcases hu with hu | ⟨k, hk, hw, hkl⟩
              · exact .inl hu
              · refine .inr ⟨k, hk, hw, fun e => ?_, ?_⟩
                · subst e
                  rw [Array.getD_eq_getD_getElem?] at hkl
                  simp [h.size, hk] at hkl
                · cases hkk : listed.getD k false with
                  | false => rfl
                  | true => rw [getD_set_true hkk] at hkl; cases hkl
            refine h2 j hj (fun e => hij e.symm) hl ?_ (h.facts j hj hl ?_)
            · unfold keepB
              rcases hu' with hu' | ⟨k, hk, hw, hne, hkl⟩
              · rw [hu']; rfl
              · rw [Bool.or_eq_true]
                refine .inr (List.any_eq_true.2 ⟨k, List.mem_range.2 hk, ?_⟩)
                have hna : ancB md ops 4 i k = false := by
                  cases ha : ancB md ops 4 i k with
                  | false => rfl
                  | true => rw [anc_listed h.closed 4 i k hdl ha] at hkl; cases hkl
                rw [hw, hna]
                simpa using hne
            · rcases hu' with hu' | ⟨k, hk, hw, _, hkl⟩
              · exact .inl hu'
              · exact .inr ⟨k, hk, hw, hkl⟩
      refine wpOp_step ho fun K' hK' => ?_
      refine hstep i o him ho _ xs w K' h.base (fun a b ha hw => ?_) (getD_both hiu) (fun j hj hwt => ⟨hdl j (need_waits hwt), h.facts _ hj (hdl j (need_waits hwt)) (.inr ⟨i, hilt, hwt, getD_both hiu⟩)⟩) (fun j hj hne hl hk => ?_) (fun v w' h1 h2 h3 => hK' _ _ (hnext v w' h1 h2 h3))
      · obtain ⟨oj, hoj, e, he, hbd, rfl⟩ := Region.waitsFor_spec hw
        exact h.closed a oj hoj ha e he hbd
      · refine h.facts j hj hl ?_
        unfold availB at hk
        rw [Bool.or_eq_true, List.any_eq_true] at hk
        rcases hk with hk | ⟨k, hkr, hk⟩
        · exact .inl hk
        · rw [Bool.and_eq_true] at hk
          refine .inr ⟨k, List.mem_range.1 hkr, hk.1, ?_⟩
          cases hkl : listed.getD k false with
          | false => rfl
          | true =>
            obtain ⟨ok, hok, e, he, hbd, hon⟩ := Region.waitsFor_spec hk.2
            have := h.closed k ok hok hkl e he hbd
            rw [hon, getD_both hiu] at this
            cases this

/-- What a step has to show, operation by operation. -/
def StepOK (P : Program) (Q : Exit → Act → World → Prop) (ops : Array Oper) (m : Nat) (ds : List (Option Nat)) (out : List Nat) (a0 : Act) (B : (Nat → Bool) → (Nat → Value) → World → Prop) (link : Nat → Nat) (F : Nat → Value → Value → World → Prop) (i : Nat) (o : Oper) : Prop :=
  ∀ (L : Nat → Bool) (xs : Nat → Value) (w : World) (K : Act → World → Prop), B L xs w → (∀ a b, L a = true → Region.waitsFor .any ops a b = true → L b = true) → L i = false → (∀ j, j < m → needB .any ops i j = true → L j = true ∧ F j (xs j) (xs (link j)) w) → (∀ j, j < m → j ≠ i → L j = true → availB .any ops out i j = true → F j (xs j) (xs (link j)) w) → (∀ v w', F i v (upd xs i v (link i)) w' → (∀ j, j < m → j ≠ i → L j = true → keepB .any ops out i j = true → F j (xs j) (xs (link j)) w → F j (xs j) (xs (link j)) w') → B (fun j => if j = i then true else L j) (upd xs i v) w' → K ((setAll a0 ds xs).put o.dst v) w') →
      if Region.wanted o (yielded ops (setAll a0 ds xs).tmps) = true then Oper.wp P o (setAll a0 ds xs) w K Q else K ((setAll a0 ds xs).put o.dst undef) w
def StepsOK (P : Program) (Q : Exit → Act → World → Prop) (ops : Array Oper) (m : Nat) (ds : List (Option Nat)) (out : List Nat) (a0 : Act) (B : (Nat → Bool) → (Nat → Value) → World → Prop) (link : Nat → Nat) (F : Nat → Value → Value → World → Prop) : Nat → List Oper → Prop
  | _, [] => True
  | i, o :: l => StepOK P Q ops m ds out a0 B link F i o ∧ StepsOK P Q ops m ds out a0 B link F (i + 1) l
theorem steps_at {m : Nat} {ds : List (Option Nat)} {out : List Nat} {a0 : Act} {B : (Nat → Bool) → (Nat → Value) → World → Prop} {link : Nat → Nat} {F : Nat → Value → Value → World → Prop} : ∀ (l : List Oper) (k i : Nat) (o : Oper), StepsOK P Q ops m ds out a0 B link F k l → l[i]? = some o → StepOK P Q ops m ds out a0 B link F (k + i) o
  | [], _, _, _, _, h => by simp at h
  | x :: l, k, 0, o, hs, h => by
    obtain rfl : x = o := by simpa using h
    exact hs.1
  | x :: l, k, i + 1, o, hs, h => by
    have := steps_at l (k + 1) i o hs.2 (by simpa using h)
    rwa [show k + (i + 1) = k + 1 + i from by omega]
def dstB (ops : Array Oper) (m : Nat) (ds : List (Option Nat)) : Bool := (List.range m).all fun i => match ops[i]? with | some o => ds[i]? == some o.dst | none => true

/-- The same from the head of the region. -/
theorem region_facts {id : Nat} {a0 : Act} {w0 : World} (m : Nat) (l : List Oper) (ds : List (Option Nat)) (out : List Nat) (B : (Nat → Bool) → (Nat → Value) → World → Prop) (link : Nat → Nat) (F : Nat → Value → Value → World → Prop)
    (hl : ops = l.toArray) (hmx : P.follows .mixedOrders = true) (hm : m ≤ ops.size) (hds : dstB ops m ds = true) (hnd : nodupB ds = true) (hlk : linkB .any ops m link = true)
    (hb : backB .any ops = true) (hsink : m = ops.size ∨ (Region.sinkB .any ops m = true ∧ Region.chainB .any ops m = true ∧ m < ops.size))
    (hB : ∀ xs, B (fun _ => false) xs w0.drew)
    (hstep : StepsOK P Q ops m ds out a0 B link F 0 (l.take m))
    (hend : ∀ (L : Nat → Bool) (xs : Nat → Value) (w : World), (∀ i, i < m → L i = true) → B L xs w → (∀ i, i < m → out.contains i = true → F i (xs i) (xs (link i)) w) → wpAny P .any ops Q (ops.size - m) (headAll m ops.size) (setAll a0 ds xs) w) :
    (Code.region id ops true).wp P Q a0 w0 := by
  refine wp_region_any hmx ?_
  have h := wpAny_facts m ds out a0 B link F hm (fun i o hi ho => by
      have h1 := List.all_eq_true.1 hds i (List.mem_range.2 hi)
      rw [ho] at h1
      simpa using h1) (nodup_of hnd) hlk hb hsink (fun i o hi ho => by
      have := steps_at (l.take m) 0 i o hstep (by rw [List.getElem?_take, if_pos hi]; rw [hl] at ho; simpa using ho)
      rw [Nat.zero_add] at this
      exact this) hend ops.size (Array.replicate ops.size false) (fun i => a0.tmps.getD ((ds.getD i none).getD 0) undef) w0.drew (by simp) ⟨by simp, fun j oj hj hl => (by rw [getD_replicate_false] at hl; cases hl), fun t ht ht' => (by simp [ht']), (by rw [show (fun i => (Array.replicate ops.size false).getD i false) = fun _ => false from funext fun i => getD_replicate_false _ i]; exact hB _), fun i hi hl => (by rw [getD_replicate_false] at hl; cases hl)⟩
  rw [setAll_self] at h
  exact h
end

end Go.Proofs.YtoefmncdloffaaaDoor
