/-
  Package page by the abstract machine: the law PageReplay.
-/
import Derived.Test.YtcjlkjcadaaleaaDoorPgN
namespace Go.Proofs.YtcjlkjcadaaleaaDoor.Pv
open Go.RowKit

def histB (b : Bool) (key : List UInt8) (pages : List ByteArray) (ws : List WriteS) : PV := match b with
  | true => .tup [.one (.sl 19 (ws.length + 1) (memF (hist key pages ws))), .one (.sl 16 (ws.length + 1) (rootF2 (hist key pages ws))), .one (.sl 1 pages.length (strF (hist key pages ws ws.length).cs)), .one (.lit (.bool true))]
  | false => .tup [.one (.sl 19 0 (memF (hist key pages ws))), .one (.sl 16 0 (rootF2 (hist key pages ws))), .one (.sl 1 0 (strF [])), .one (.lit (.bool false))]
theorem histB_eq {b : Bool} {key : List UInt8} {pages : List ByteArray} {ws : List WriteS} (h : histOk pages ws = b) : histPV key pages ws = histB b key pages ws := by
  unfold histPV histB
  rw [h]
  cases b <;> rfl
def writeOf : List PC → WriteS
  | [.lit (.int _ (.ofNat p)), .lit (.string c)] => ⟨p, c⟩
  | _ => default
def isWrite : List PC → Bool
  | [.lit (.int .u8 (.ofNat p)), .lit (.string _)] => Nat.blt p 256
  | _ => false
def rowWrite (n : Nat) (f : Nat → List PC) : List WriteS := (List.range n).map fun i => writeOf (f i)
def IsWriteRow (n : Nat) (f : Nat → List PC) : Prop := ∀ i, i < n → isWrite (f i) = true
theorem isWrite_ok {l : List PC} (h : isWrite l = true) : l = [.lit (.int .u8 ((writeOf l).page : Int)), .lit (.string (writeOf l).content)] ∧ (writeOf l).page < 256 := by
  unfold isWrite at h
  split at h
  · rename_i p c
    exact ⟨rfl, Nat.le_of_ble_eq_true h⟩
  · cases h
@[simp] theorem rowWrite_length (n : Nat) (f : Nat → List PC) : (rowWrite n f).length = n := by simp [rowWrite]
theorem writeF_row {n : Nat} {f : Nat → List PC} (h : IsWriteRow n f) : ∀ i, i < n → f i = writeF (rowWrite n f) i := fun i hi => by
  unfold writeF rowWrite
  rw [getD_map_range n i _ hi]
  exact (isWrite_ok (h i hi)).1
theorem rowWrite_lt {n : Nat} {f : Nat → List PC} (h : IsWriteRow n f) : ∀ w ∈ rowWrite n f, w.page < 256 := fun w hw => by
  obtain ⟨i, hi, rfl⟩ := List.mem_map.1 hw
  exact (isWrite_ok (h i (List.mem_range.1 hi))).2
@[simp] theorem rowWrite_writeF (l : List WriteS) : rowWrite l.length (writeF l) = l := by
  apply List.ext_getElem (by simp)
  intro i h1 h2
  simp only [rowWrite, List.getElem_map, List.getElem_range, writeF]
  rw [List.getD_eq_getElem?_getD, List.getElem?_eq_getElem h2]
  rfl
theorem isWriteRow_writeF {l : List WriteS} (h : ∀ w ∈ l, w.page < 256) : IsWriteRow l.length (writeF l) := fun i hi => by
  have := h _ (getD_mem hi default)
  unfold writeF
  show Nat.blt _ 256 = true
  exact Nat.ble_eq_true_of_le this
def spHist (b : Bool) : Spec := funSpec false fun xs => match xs with
  | [.w (.agg [.bs 16 k]), .w (.one (.sl 1 n f)), .w (.one (.sl 2 n' f'))] => some (IsStrRow n f ∧ IsWriteRow n' f' ∧ histOk (rowStr n f) (rowWrite n' f') = b, histB b k (rowStr n f) (rowWrite n' f'))
  | _ => none
theorem vals_sl3 {C : Ctx} {a : PV} {n len : Nat} {f f' : Nat → List PC} {m len2 : Nat} {g g' : Nat → List PC} (h : ∀ i, i < len → f i = f' i) (h2 : ∀ i, i < len2 → g i = g' i) : ∀ vs, Vals C [a, .w (.one (.sl n len f)), .w (.one (.sl m len2 g))] vs → Vals C [a, .w (.one (.sl n len f')), .w (.one (.sl m len2 g'))] vs
  | [], hv => hv
  | [_], ⟨_, hv⟩ => hv.elim
  | [_, _], ⟨_, _, hv⟩ => hv.elim
  | _ :: _ :: _ :: _ :: _, ⟨_, _, _, hv⟩ => hv.elim
  | [_, _, _], ⟨h3, h4, h5, _⟩ => ⟨h3, by
    cases h4 with
    | w h4 => cases h4 with
      | one h4 => exact .w (.one (h4.sl_ext h)), by
    cases h5 with
    | w h5 => cases h5 with
      | one h5 => exact .w (.one (h5.sl_ext h2)), trivial⟩
theorem history_ok (b : Bool) : SpecOk Tryd.prog ShaMem 39 (spHist b) := by
  refine funSpec_ok (call_enters Tryd.func39 (by kernel_rfl) rfl) (fun xs p r hg hp => ?_)
  split at hg
  · rename_i k n f n' f'
    cases hg
    obtain ⟨h1, h2, h3⟩ := hp
    intro w ok0 vs hI hv
    have h4 := history_fun k (rowStr n f) (rowWrite n' f') (vals_dig hv) (rowWrite_lt h2)
    rw [rowStr_length, rowWrite_length, histB_eq h3] at h4
    exact h4 w ok0 vs hI (vals_sl3 (strF_row h1) (writeF_row h2) vs hv)
  · cases hg
def pgL10 (b : Bool) : List (Nat × Spec) := (39, spHist b) :: pgL9
theorem pg10_ok (b : Bool) : ∀ p ∈ pgL10 b, SpecOk Tryd.prog ShaMem p.1 p.2 := by
  intro p hp
  unfold pgL10 at hp
  rcases List.mem_cons.1 hp with rfl | hp
  · exact history_ok b
  · exact pg9_ok p hp
theorem pg10M (b : Bool) : Mach Tryd.prog ShaMem (find (pgL10 b)) := ⟨specs_of (pg10_ok b), mixed_⟩
theorem rem_nat (a n : Nat) (ha : a < 256) : (IntKind.i64.wrap (a : Int)).tmod (n : Int) = ((a % n : Nat) : Int) := by
  rw [IntKind.wrap_i64]
  have e : ((a : Int) + 9223372036854775808) % 18446744073709551616 - 9223372036854775808 = (a : Int) := by omega
  exact (congrArg (fun z => Int.tmod z (n : Int)) e).trans rfl
theorem Good.stale {key root root' : List UInt8} {m : MemS} {cs : List ByteArray} (h : Good key root m cs) (hr : ¬ root = root') {i : Int} : loadE key root' m i = 14 := by
  have hv : verE key root' m = 14 := by
    unfold verE
    rw [h.tagOk, cond_true, ← h.root]
    have h2 : (root == root') = false := by rw [beq_eq_false_iff_ne]; exact hr
    rw [h2]; rfl
  unfold loadE
  rw [hv]; rfl
def repSt (key : List UInt8) (pages : List ByteArray) (ws : List WriteS) (x y i : Nat) : St := ⟨[(1, none, pv1 (.sl 1 pages.length (strF pages))), (5, none, pv1 (.lit (.int .u8 (i : Int)))), (6, none, pv1 (.pt 0 0 0)), (12, none, pvB false), (13, none, pvB true), (14, none, pv1 (.sl 19 (ws.length + 1) (memF (hist key pages ws)))), (15, none, pv1 (.sl 16 (ws.length + 1) (rootF2 (hist key pages ws)))), (18, none, pvI (x : Int)), (19, none, pvI (y : Int))],
  [(0, none, 0, .box 23 [.bs 16 key])]⟩
set_option maxRecDepth 100000 in
theorem pgReplay_fun (key : List UInt8) (pages : List ByteArray) (ws : List WriteS) (a b i : Nat) (_ : key.length = 16) (hw : ∀ w ∈ ws, w.page < 256) (ha : a < 256) (hb : b < 256) (hi : i < 256) : FunOk Tryd.prog ShaMem 12 false [.w (.agg [.bs 16 key]), pv1 (.sl 1 pages.length (strF pages)), pv1 (.sl 2 ws.length (writeF ws)), pv1 (.lit (.int .u8 (a : Int))), pv1 (.lit (.int .u8 (b : Int))), pv1 (.lit (.int .u8 (i : Int)))] (pvB true) := by
  cases hh : histOk pages ws with
  | false =>
    have M := pg10M false
    refine funOk_of Tryd.func12 rfl rfl sha_ext (fun A hS hn hI => ?_)
    refine tri_reg M hI hn (outs := ?_) (s' := ?_) ?_ ?_ ?_ ?_
    rotate_left 2
    · rfl
    · kernel_rfl
    · simp
    refine tri_reg M hI hn (outs := ?_) (s' := ?_) ?_ ?_ ?_ ?_
    rotate_left 2
    · rfl
    · kernel_rfl
    · simp
    refine tri_reg M hI hn (outs := ?_) (s' := ?_) ?_ ?_ ?_ ?_
    rotate_left 2
    · rfl
    · kernel_rfl
    · simp [hh, isWriteRow_writeF hw]
    refine tri_seq ?_
    refine tri_reg M hI hn (outs := ?_) (s' := ?_) ?_ ?_ ?_ ?_
    rotate_left 2
    · rfl
    · kernel_rfl
    · simp
    refine tri_cond (b := ?_) ?_ (fun hc => ?_) (fun hc => ?_)
    rotate_left 1
    · rfl
    · refine tri_reg M hI hn (outs := ?_) (s' := ?_) ?_ ?_ ?_ ?_
      rotate_left 2
      · rfl
      · kernel_rfl
      · simp
      refine tri_ret (fun a w hg => ⟨.inr rfl, _, ?_, hg⟩)
      refine retTo_cold (out := ?_) ?_ ?_ ?_ ?_ ?_
      rotate_left 1
      · rfl
      · simp
      · rfl
      · rfl
      rfl
    · cases hc
  | true =>
    have M := pg10M true
    have hh2 := hh
    unfold histOk at hh2
    rw [Bool.and_eq_true, Bool.and_eq_true, decide_eq_true_eq] at hh2
    obtain ⟨⟨h0, h1, h2⟩, hsh, hct⟩ := hh2
    have hsz5 : ∀ c ∈ pages, c.size ≤ 5000 := fun c hc => by have := (short_sizes hsh).2 c hc; omega
    have hall : ∀ k j, k ≤ ws.length → j < k → (ws.getD j default).content.size ≤ 5000 := fun k j hk hj => by
      have := of_decide_eq_true (List.all_eq_true.1 hct _ (getD_mem (show j < ws.length by omega) default))
      omega
    have hx := Nat.mod_lt a (show 0 < ws.length + 1 by omega)
    have hy := Nat.mod_lt b (show 0 < ws.length + 1 by omega)
    have hz := Nat.mod_lt i h0
    refine funOk_of Tryd.func12 rfl rfl sha_ext (fun A hS hn hI => ?_)
    refine tri_reg M hI hn (outs := ?_) (s' := ?_) ?_ ?_ ?_ ?_
    rotate_left 2
    · rfl
    · kernel_rfl
    · simp
    refine tri_reg M hI hn (outs := ?_) (s' := ?_) ?_ ?_ ?_ ?_
    rotate_left 2
    · rfl
    · kernel_rfl
    · simp
    refine tri_reg M hI hn (outs := ?_) (s' := ?_) ?_ ?_ ?_ ?_
    rotate_left 2
    · rfl
    · kernel_rfl
    · simp [hh, isWriteRow_writeF hw]
    refine tri_seq ?_
    refine tri_reg M hI hn (outs := ?_) (s' := ?_) ?_ ?_ ?_ ?_
    rotate_left 2
    · rfl
    · kernel_rfl
    · simp
    refine tri_cond (b := ?_) ?_ (fun hc => ?_) (fun hc => ?_)
    rotate_left 1
    · rfl
    · cases hc
    · refine tri_skip ?_
      change Tri _ _ _ _ _
      refine tri_reg M hI hn (outs := ?_) (s' := ?_) ?_ ?_ ?_ ?_
      rotate_left 2
      · rfl
      · kernel_rfl
      · simp
        omega
      refine tri_reg M hI hn (outs := ?_) (s' := ?_) ?_ ?_ ?_ ?_
      rotate_left 2
      · rfl
      · kernel_rfl
      · simp
        omega
      refine tri_conv (s' := repSt key pages ws (a % (ws.length + 1)) (b % (ws.length + 1)) i) (fun a w hg => (hg.reset (kT := [1, 5, 6, 12, 13, 14, 15, 18, 19]) (kO := [0]) (by rfl) (by simp)).same ?_ ?_) ?_
      · simp only [rowStr_strF, rowWrite_writeF]
        refine .cons rfl (.cons rfl (.cons rfl (.cons rfl (.cons rfl (.cons rfl (.cons rfl (.cons ?_ (.cons ?_ .nil))))))))
        · exact congrArg pvI (rem_nat _ _ ha)
        · exact congrArg pvI (rem_nat _ _ hb)
      · exact .cons (.box rfl) .nil
      generalize a % (ws.length + 1) = x at hx ⊢
      generalize b % (ws.length + 1) = y at hy ⊢
      have hgx := hist_good key pages ws h0 h1 x
      refine tri_reg M hI hn (outs := ?_) (s' := ?_) ?_ ?_ ?_ ?_
      rotate_left 2
      · rfl
      · kernel_rfl
      · simp only [all_cons_, all_nil_, hP_none, List.map_cons, List.map_nil, List.flatten_cons, List.flatten_nil, List.append_nil, List.nil_append, List.cons_append, rowBox_boxF, rowInt_intF, and_true]
        refine ⟨⟨by omega, by omega⟩, ⟨by omega, by omega⟩, by omega, ⟨isBoxRow_boxF _ _, isIntRow_intF _ _⟩, hist_memOk key pages ws h0 h1 hsz5 x (fun j hj => hall x j (by omega) hj), ?_⟩
        rw [rem_nat i _ hi]
        unfold i64P
        omega
      refine tri_seq ?_
      refine tri_reg M hI hn (outs := ?_) (s' := ?_) ?_ ?_ ?_ ?_
      rotate_left 2
      · rfl
      · kernel_rfl
      · simp
        omega
      refine tri_cond (b := ?_) ?_ (fun hc => ?_) (fun hc => ?_)
      rotate_left 1
      · rfl
      · refine tri_reg M hI hn (outs := ?_) (s' := ?_) ?_ ?_ ?_ ?_
        rotate_left 2
        · rfl
        · kernel_rfl
        · simp
        refine tri_ret (fun a w hg => ⟨.inr rfl, _, ?_, hg⟩)
        refine retTo_cold (out := ?_) ?_ ?_ ?_ ?_ ?_
        rotate_left 1
        · rfl
        · simp
        · rfl
        · rfl
        have hr : (hist key pages ws x).r = (hist key pages ws y).r := by simpa using hc
        simp only [rowBox_boxF, rowInt_intF, rem_nat i _ hi]
        change pvB (bif true then loadE key (hist key pages ws y).r (hist key pages ws x).m ((i % pages.length : Nat) : Int) == 0 else false) = pvB true
        rw [← hr, (hgx.2.load (k := i % pages.length) (by rw [hgx.1]; exact hz)).1]
        rfl
      · refine tri_skip ?_
        change Tri _ _ _ _ _
        refine tri_reg M hI hn (outs := ?_) (s' := ?_) ?_ ?_ ?_ ?_
        rotate_left 2
        · rfl
        · kernel_rfl
        · simp
        refine tri_ret (fun a w hg => ⟨.inr rfl, _, ?_, hg⟩)
        refine retTo_cold (out := ?_) ?_ ?_ ?_ ?_ ?_
        rotate_left 1
        · rfl
        · simp
        · rfl
        · rfl
        have hr : ¬ (hist key pages ws x).r = (hist key pages ws y).r := by simpa using hc
        have hxy : ¬ x = y := fun e => hr (by rw [e])
        simp only [rowBox_boxF, rowInt_intF, rem_nat i _ hi]
        change pvB (bif bif true then (x : Int) != (y : Int) else false then loadE key (hist key pages ws y).r (hist key pages ws x).m ((i % pages.length : Nat) : Int) == 14 else false) = pvB true
        rw [hgx.2.stale hr]
        have : ((x : Int) != (y : Int)) = true := by rw [bne_iff_ne]; omega
        rw [this]
        rfl

end Go.Proofs.YtcjlkjcadaaleaaDoor.Pv
