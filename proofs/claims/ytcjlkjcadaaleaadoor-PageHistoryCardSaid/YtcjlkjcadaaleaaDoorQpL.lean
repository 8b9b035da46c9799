/-
  Several texts in one file: each has its own heading below.
-/
import Derived.Test.YtcjlkjcadaaleaaDoorQpK
import Derived.Test.YtcjlkjcadaaleaaDoorQpI
import Derived.Test.YtcjlkjcadaaleaaDoorQpG
import Derived.Test.YtcjlkjcadaaleaaDoorQpJ
import Derived.Test.YtcjlkjcadaaleaaDoorQpH

/-
  Package page by the abstract machine: checked, verify, Load, clone.
-/
namespace Go.Proofs.YtcjlkjcadaaleaaDoor.Pv
open Go.RowKit

def chkI (v : Int) (b : Bool) (e : Int) : PV := .tup [.one (.lit (.int .i64 (bif b then v else 0))), .one (.lit (.int .i64 (bif b then 0 else e)))]
def chkStr (v : ByteArray) (b : Bool) (e : Int) : PV := .tup [.one (.lit (.string (bif b then v else { data := #[] }))), .one (.lit (.int .i64 (bif b then 0 else e)))]
def chkD (v : List UInt8) (b : Bool) (e : Int) : PV := .tup [.agg [.bs 16 (bif b then v else List.replicate 16 0)], .one (.lit (.int .i64 (bif b then 0 else e)))]
set_option maxRecDepth 100000 in
theorem checkedI_fun (v : Int) (b : Bool) (e : Int) : FunOk Tryd.prog ShaMem 72 true [pvI v, pvB b, pvI e] (chkI v b e) := by
  have M := pg1M
  refine funOk_of Tryd.func72 rfl rfl sha_ext (fun A hS hn hI => ?_)
  refine tri_reg M hI hn (outs := ?_) (s' := ?_) ?_ ?_ ?_ ?_
  rotate_left 2
  · rfl
  · kernel_rfl
  · simp
  refine tri_seq ?_
  refine tri_reg M hI hn (outs := ?_) (s' := ?_) ?_ ?_ ?_ ?_
  rotate_left 2
  · rfl
  · kernel_rfl
  · simp
  refine tri_cond (b := ?_) ?_ (fun hc => ?_) (fun hc => ?_)
  rotate_left 1
  · rfl
  · refine tri_reg M hI hn (outs := ?_) (s' := ?_) ?_ ?_ ?_ ?_
    rotate_left 2
    · rfl
    · kernel_rfl
    · simp
    refine tri_ret (fun a w hg => ⟨.inr rfl, _, ?_, hg⟩)
    refine retTo_cold (out := ?_) ?_ ?_ ?_ ?_ ?_
    rotate_left 1
    · rfl
    · simp
    · rfl
    · rfl
    have hb : b = true := hc
    simp [chkI, hb]
  · refine tri_skip ?_
    change Tri _ _ _ _ _
    have hb : b = false := hc
    refine tri_reg M hI hn (outs := ?_) (s' := ?_) ?_ ?_ ?_ ?_
    rotate_left 2
    · rfl
    · kernel_rfl
    · simp
    refine tri_reg M hI hn (outs := ?_) (s' := ?_) ?_ ?_ ?_ ?_
    rotate_left 2
    · rfl
    · kernel_rfl
    · simp
    refine tri_ret (fun a w hg => ⟨.inr rfl, _, ?_, hg⟩)
    refine retTo_cold (out := ?_) ?_ ?_ ?_ ?_ ?_
    rotate_left 1
    · rfl
    · simp
    · rfl
    · rfl
    simp [chkI, hb]
set_option maxRecDepth 100000 in
theorem checkedS_fun (v : ByteArray) (b : Bool) (e : Int) : FunOk Tryd.prog ShaMem 73 true [(.w (.one (.lit (.string v)))), pvB b, pvI e] (chkStr v b e) := by
  have M := pg1M
  refine funOk_of Tryd.func73 rfl rfl sha_ext (fun A hS hn hI => ?_)
  refine tri_reg M hI hn (outs := ?_) (s' := ?_) ?_ ?_ ?_ ?_
  rotate_left 2
  · rfl
  · kernel_rfl
  · simp
  refine tri_seq ?_
  refine tri_reg M hI hn (outs := ?_) (s' := ?_) ?_ ?_ ?_ ?_
  rotate_left 2
  · rfl
  · kernel_rfl
  · simp
  refine tri_cond (b := ?_) ?_ (fun hc => ?_) (fun hc => ?_)
  rotate_left 1
  · rfl
  · refine tri_reg M hI hn (outs := ?_) (s' := ?_) ?_ ?_ ?_ ?_
    rotate_left 2
    · rfl
    · kernel_rfl
    · simp
    refine tri_ret (fun a w hg => ⟨.inr rfl, _, ?_, hg⟩)
    refine retTo_cold (out := ?_) ?_ ?_ ?_ ?_ ?_
    rotate_left 1
    · rfl
    · simp
    · rfl
    · rfl
    have hb : b = true := hc
    simp [chkStr, hb]
  · refine tri_skip ?_
    change Tri _ _ _ _ _
    have hb : b = false := hc
    refine tri_reg M hI hn (outs := ?_) (s' := ?_) ?_ ?_ ?_ ?_
    rotate_left 2
    · rfl
    · kernel_rfl
    · simp
    refine tri_reg M hI hn (outs := ?_) (s' := ?_) ?_ ?_ ?_ ?_
    rotate_left 2
    · rfl
    · kernel_rfl
    · simp
    refine tri_ret (fun a w hg => ⟨.inr rfl, _, ?_, hg⟩)
    refine retTo_cold (out := ?_) ?_ ?_ ?_ ?_ ?_
    rotate_left 1
    · rfl
    · simp
    · rfl
    · rfl
    simp [chkStr, hb]
set_option maxRecDepth 100000 in
theorem checkedD_fun (v : (List UInt8)) (b : Bool) (e : Int) : FunOk Tryd.prog ShaMem 96 true [(.w (.agg [.bs 16 v])), pvB b, pvI e] (chkD v b e) := by
  have M := pg1M
  refine funOk_of Tryd.func96 rfl rfl sha_ext (fun A hS hn hI => ?_)
  refine tri_reg M hI hn (outs := ?_) (s' := ?_) ?_ ?_ ?_ ?_
  rotate_left 2
  · rfl
  · kernel_rfl
  · simp
  refine tri_seq ?_
  refine tri_reg M hI hn (outs := ?_) (s' := ?_) ?_ ?_ ?_ ?_
  rotate_left 2
  · rfl
  · kernel_rfl
  · simp
  refine tri_cond (b := ?_) ?_ (fun hc => ?_) (fun hc => ?_)
  rotate_left 1
  · rfl
  · refine tri_reg M hI hn (outs := ?_) (s' := ?_) ?_ ?_ ?_ ?_
    rotate_left 2
    · rfl
    · kernel_rfl
    · simp
    refine tri_ret (fun a w hg => ⟨.inr rfl, _, ?_, hg⟩)
    refine retTo_cold (out := ?_) ?_ ?_ ?_ ?_ ?_
    rotate_left 1
    · rfl
    · simp
    · rfl
    · rfl
    have hb : b = true := hc
    simp [chkD, hb]
  · refine tri_skip ?_
    change Tri _ _ _ _ _
    have hb : b = false := hc
    refine tri_reg M hI hn (outs := ?_) (s' := ?_) ?_ ?_ ?_ ?_
    rotate_left 2
    · rfl
    · kernel_rfl
    · simp
    refine tri_reg M hI hn (outs := ?_) (s' := ?_) ?_ ?_ ?_ ?_
    rotate_left 2
    · rfl
    · kernel_rfl
    · simp
    refine tri_ret (fun a w hg => ⟨.inr rfl, _, ?_, hg⟩)
    refine retTo_cold (out := ?_) ?_ ?_ ?_ ?_ ?_
    rotate_left 1
    · rfl
    · simp
    · rfl
    · rfl
    simp [chkD, hb]
def spCheckedI : Spec := funSpec true fun xs => match xs with
  | [.w (.one (.lit (.int .i64 v))), .w (.one (.lit (.bool b))), .w (.one (.lit (.int .i64 e)))] => some (True, chkI v b e)
  | _ => none
def spCheckedS : Spec := funSpec true fun xs => match xs with
  | [.w (.one (.lit (.string v))), .w (.one (.lit (.bool b))), .w (.one (.lit (.int .i64 e)))] => some (True, chkStr v b e)
  | _ => none
def spCheckedD : Spec := funSpec true fun xs => match xs with
  | [.w (.agg [.bs 16 v]), .w (.one (.lit (.bool b))), .w (.one (.lit (.int .i64 e)))] => some (True, chkD v b e)
  | _ => none
theorem checkedI_ok : SpecOk Tryd.prog ShaMem 72 spCheckedI := by
  refine funSpec_ok (call_enters Tryd.func72 (by kernel_rfl) rfl) (fun xs p r hg hp => ?_)
  split at hg
  · cases hg
    exact checkedI_fun _ _ _
  · cases hg
theorem checkedS_ok : SpecOk Tryd.prog ShaMem 73 spCheckedS := by
  refine funSpec_ok (call_enters Tryd.func73 (by kernel_rfl) rfl) (fun xs p r hg hp => ?_)
  split at hg
  · cases hg
    exact checkedS_fun _ _ _
  · cases hg
theorem checkedD_ok : SpecOk Tryd.prog ShaMem 96 spCheckedD := by
  refine funSpec_ok (call_enters Tryd.func96 (by kernel_rfl) rfl) (fun xs p r hg hp => ?_)
  split at hg
  · cases hg
    exact checkedD_fun _ _ _
  · cases hg
set_option maxRecDepth 100000 in
theorem cloneB_fun (l : List BoxS) (hl : l.length ≤ 1000000) : FunRow Tryd.prog ShaMem 90 [.w (.one (.sl 18 l.length (boxF l)))] 27 18 l.length (boxF l) := by
  have M := pg1M
  have hbt : Tryd.prog.types[27].bytes = 40 := by kernel_rfl
  refine funRow_of Tryd.func90 rfl rfl sha_ext (fun A hS hn hI => ?_)
  refine tri_reg M hI hn (outs := ?_) (s' := ?_) ?_ ?_ ?_ ?_
  rotate_left 2
  · rfl
  · kernel_rfl
  · simp
  refine tri_reg M hI hn (outs := ?_) (s' := ?_) ?_ ?_ ?_ ?_
  rotate_left 2
  · rfl
  · kernel_rfl
  · simp
    rw [hbt]
    omega
  refine tri_reg M hI hn (outs := ?_) (s' := ?_) ?_ ?_ ?_ ?_
  rotate_left 2
  · rfl
  · kernel_rfl
  · simp
  refine tri_reg M hI hn (outs := ?_) (s' := ?_) ?_ ?_ ?_ ?_
  rotate_left 2
  · rfl
  · kernel_rfl
  · simp
  refine tri_ret (fun a w hg => ⟨.inr rfl, _, ?_, hg⟩)
  refine rowTo_of (x := 1002) (ver := 0) (g := none) (f := ?_) (out := ?_) ?_ ?_ ?_ ?_ ?_ trivial ?_
  rotate_left 2
  · rfl
  · simp
  · rfl
  · rfl
  · rfl
  intro i hi
  refine ⟨?_, rfl⟩
  have : i < min l.length l.length := by omega
  simp [cpF, hi]
set_option maxRecDepth 100000 in
theorem cloneI_fun (l : List Int) (hl : l.length ≤ 1000000) : FunRow Tryd.prog ShaMem 91 [.w (.one (.sl 1 l.length (intF l)))] 3 1 l.length (intF l) := by
  have M := pg1M
  have hbt : Tryd.prog.types[3].bytes = 8 := by kernel_rfl
  refine funRow_of Tryd.func91 rfl rfl sha_ext (fun A hS hn hI => ?_)
  refine tri_reg M hI hn (outs := ?_) (s' := ?_) ?_ ?_ ?_ ?_
  rotate_left 2
  · rfl
  · kernel_rfl
  · simp
  refine tri_reg M hI hn (outs := ?_) (s' := ?_) ?_ ?_ ?_ ?_
  rotate_left 2
  · rfl
  · kernel_rfl
  · simp
    rw [hbt]
    omega
  refine tri_reg M hI hn (outs := ?_) (s' := ?_) ?_ ?_ ?_ ?_
  rotate_left 2
  · rfl
  · kernel_rfl
  · simp
  refine tri_reg M hI hn (outs := ?_) (s' := ?_) ?_ ?_ ?_ ?_
  rotate_left 2
  · rfl
  · kernel_rfl
  · simp
  refine tri_ret (fun a w hg => ⟨.inr rfl, _, ?_, hg⟩)
  refine rowTo_of (x := 1002) (ver := 0) (g := none) (f := ?_) (out := ?_) ?_ ?_ ?_ ?_ ?_ trivial ?_
  rotate_left 2
  · rfl
  · simp
  · rfl
  · rfl
  · rfl
  intro i hi
  refine ⟨?_, rfl⟩
  have : i < min l.length l.length := by omega
  simp [cpF, hi]
def spCloneB : Spec := rowSpec fun xs => match xs with
  | [.w (.one (.sl 18 n f))] => some (IsBoxRow n f ∧ n ≤ 1000000, 27, 18, n, boxF (rowBox n f))
  | _ => none
def spCloneI : Spec := rowSpec fun xs => match xs with
  | [.w (.one (.sl 1 n f))] => some (IsIntRow n f ∧ n ≤ 1000000, 3, 1, n, intF (rowInt n f))
  | _ => none
theorem FunRow.args {P : Program} {I : World → Prop} {f : Nat} {args args' : List PV} {e n len : Nat} {f' : Nat → List PC} (h : FunRow P I f args' e n len f') (hv : ∀ C vs, Vals C args vs → Vals C args' vs) : FunRow P I f args e n len f' :=
  fun w ok0 vs hI hV => h w ok0 vs hI (hv _ vs hV)
theorem one_sl {C : Ctx} {n len : Nat} {f f' : Nat → List PC} (h : ∀ i, i < len → f i = f' i) : ∀ vs, Vals C [.w (.one (.sl n len f))] vs → Vals C [.w (.one (.sl n len f'))] vs
  | [], hv => hv
  | _ :: _ :: _, ⟨_, hv⟩ => hv.elim
  | [v], ⟨hv, _⟩ => ⟨by
    cases hv with
    | w hv => cases hv with
      | one hv => exact .w (.one (hv.sl_ext h)), trivial⟩
theorem cloneB_ok : SpecOk Tryd.prog ShaMem 90 spCloneB := by
  refine rowSpec_ok (call_enters Tryd.func90 (by kernel_rfl) rfl) (fun xs p e n len f' hg hp => ?_)
  split at hg
  · rename_i n0 f
    cases hg
    have h1 := cloneB_fun (rowBox len f) (by rw [rowBox_length]; exact hp.2)
    rw [rowBox_length] at h1
    exact h1.args fun C vs hv => one_sl (boxF_row hp.1) vs hv
  · cases hg
theorem cloneI_ok : SpecOk Tryd.prog ShaMem 91 spCloneI := by
  refine rowSpec_ok (call_enters Tryd.func91 (by kernel_rfl) rfl) (fun xs p e n len f' hg hp => ?_)
  split at hg
  · rename_i n0 f
    cases hg
    have h1 := cloneI_fun (rowInt len f) (by rw [rowInt_length]; exact hp.2)
    rw [rowInt_length] at h1
    exact h1.args fun C vs hv => one_sl (intF_row hp.1) vs hv
  · cases hg

/-! ### verify and Load -/
def tagOkS (key : List UInt8) (m : MemS) : Bool := bif formedS m then m.tag == memTagS key (memRootS m) else false
def verE (key root : List UInt8) (m : MemS) : Int := bif tagOkS key m then (bif memRootS m == root then 0 else 14) else 8
def verV (key root : List UInt8) (m : MemS) : List UInt8 := bif tagOkS key m then (bif memRootS m == root then memRootS m else List.replicate 16 0) else List.replicate 16 0
def verPV (key root : List UInt8) (m : MemS) : PV := .tup [.agg [.bs 16 (verV key root m)], .one (.lit (.int .i64 (verE key root m)))]
def pgL2 : List (Nat × Spec) := (42, memSpec MemOk fun m => .w (.agg [.bs 16 (memRootS m)])) :: (72, spCheckedI) :: (73, spCheckedS) :: (96, spCheckedD) ::
  (90, spCloneB) :: (91, spCloneI) :: pgL1
theorem pg2_ok : ∀ p ∈ pgL2, SpecOk Tryd.prog ShaMem p.1 p.2 := by
  intro p hp
  unfold pgL2 at hp
  rcases List.mem_cons.1 hp with rfl | hp
  · exact memSpec_ok (call_enters Tryd.func42 (by kernel_rfl) rfl) root_fun
  rcases List.mem_cons.1 hp with rfl | hp
  · exact checkedI_ok
  rcases List.mem_cons.1 hp with rfl | hp
  · exact checkedS_ok
  rcases List.mem_cons.1 hp with rfl | hp
  · exact checkedD_ok
  rcases List.mem_cons.1 hp with rfl | hp
  · exact cloneB_ok
  rcases List.mem_cons.1 hp with rfl | hp
  · exact cloneI_ok
  · exact pg1_ok p hp
theorem pg2M : Mach Tryd.prog ShaMem (find pgL2) := ⟨specs_of pg2_ok, mixed_⟩
theorem memRootS_length (m : MemS) : (memRootS m).length = 16 := by
  unfold memRootS
  split
  · exact digestS_length _ _
  · simp
theorem mem_eta (m : MemS) (n : Nat) (k : Nat) (hn : n = m.pages.length) (hk : k = m.counts.length) : (⟨rowBox n (boxF m.pages), rowInt k (intF m.counts), m.total, m.tag⟩ : MemS) = m := by
  subst hn; subst hk
  rw [rowBox_boxF, rowInt_intF]
set_option maxRecDepth 100000 in
theorem verify_fun (key root : List UInt8) (m : MemS) (_ : key.length = 16) (_ : root.length = 16) (hm : MemOk m) : FunOk Tryd.prog ShaMem 71 true [.w (.agg [.bs 16 key]), .w (.agg [.bs 16 root]), memPV m] (verPV key root m) := by
  have M := pg2M
  refine funOk_of Tryd.func71 rfl rfl sha_ext (fun A hS hn hI => ?_)
  refine tri_reg M hI hn (outs := ?_) (s' := ?_) ?_ ?_ ?_ ?_
  rotate_left 2
  · rfl
  · kernel_rfl
  · simp
  refine tri_reg M hI hn (outs := ?_) (s' := ?_) ?_ ?_ ?_ ?_
  rotate_left 2
  · rfl
  · kernel_rfl
  · simp [hm]
  refine tri_seq ?_
  refine tri_reg M hI hn (outs := ?_) (s' := ?_) ?_ ?_ ?_ ?_
  rotate_left 2
  · rfl
  · kernel_rfl
  · simp
  refine tri_reg M hI hn (outs := ?_) (s' := ?_) ?_ ?_ ?_ ?_
  rotate_left 2
  · rfl
  · kernel_rfl
  · simp
  refine tri_cond (b := ?_) ?_ (fun hc => ?_) (fun hc => ?_)
  rotate_left 1
  · rfl
  · have h1 : tagOkS key m = false := by
      simp only [rowBox_boxF, rowInt_intF] at hc
      change ((bif tagOkS key m then (0 : Int) else 8) != 0) = true at hc
      cases h : tagOkS key m with
      | false => rfl
      | true => rw [h] at hc; exact absurd hc (by decide)
    refine tri_reg M hI hn (outs := ?_) (s' := ?_) ?_ ?_ ?_ ?_
    rotate_left 2
    · rfl
    · kernel_rfl
    · simp
    refine tri_ret (fun a w hg => ⟨.inr rfl, _, ?_, hg⟩)
    refine retTo_cold (out := ?_) ?_ ?_ ?_ ?_ ?_
    rotate_left 1
    · rfl
    · simp
    · rfl
    · rfl
    simp only [rowBox_boxF, rowInt_intF]
    refine Eq.trans (b := PV.tup [.agg [.bs 16 (List.replicate 16 0)], .one (.lit (.int .i64 (bif tagOkS key m then 0 else 8)))]) rfl ?_
    simp [verPV, verV, verE, h1]
  · refine tri_skip ?_
    change Tri _ _ _ _ _
    have h1 : tagOkS key m = true := by
      simp only [rowBox_boxF, rowInt_intF] at hc
      change ((bif tagOkS key m then (0 : Int) else 8) != 0) = false at hc
      cases h : tagOkS key m with
      | true => rfl
      | false => rw [h] at hc; exact absurd hc (by decide)
    refine tri_reg M hI hn (outs := ?_) (s' := ?_) ?_ ?_ ?_ ?_
    rotate_left 2
    · rfl
    · kernel_rfl
    · simp
    refine tri_ret (fun a w hg => ⟨.inr rfl, _, ?_, hg⟩)
    refine retTo_cold (out := ?_) ?_ ?_ ?_ ?_ ?_
    rotate_left 1
    · rfl
    · simp
    · rfl
    · rfl
    simp [verPV, verV, verE, h1]

end Go.Proofs.YtcjlkjcadaaleaaDoor.Pv

/-
  Package page by the abstract machine: Load.
-/
namespace Go.Proofs.YtcjlkjcadaaleaaDoor.Pv
open Go.RowKit

def spVerify : Spec := funSpec true fun xs => match xs with
  | [.w (.agg [.bs 16 k]), .w (.agg [.bs 16 r]), v] => (match asMem v with
    | some (p, m) => some (p ∧ MemOk m, verPV k r m)
    | none => none)
  | _ => none
theorem vals_mem3 {C : Ctx} {a b v : PV} {p : Prop} {m : MemS} {l : List PV} (h : asMem v = some (p, m)) (hp : p) : ∀ vs, Vals C (a :: b :: v :: l) vs → Vals C (a :: b :: memPV m :: l) vs
  | [], hv => hv
  | [_], ⟨_, hv⟩ => hv.elim
  | [_, _], ⟨_, _, hv⟩ => hv.elim
  | _ :: _ :: _ :: _, ⟨h1, h2, h3, h4⟩ => ⟨h1, h2, asMem_ok h hp h3, h4⟩
theorem vals_dig2 {C : Ctx} {n n' : Nat} {k r : List UInt8} {l : List PV} : ∀ {vs : List Value}, Vals C (.w (.agg [.bs n k]) :: .w (.agg [.bs n' r]) :: l) vs → k.length = n ∧ r.length = n'
  | [], hv => hv.elim
  | [_], ⟨_, hv⟩ => hv.elim
  | _ :: _ :: _, ⟨h1, h2, _⟩ => ⟨(rv_dig h1).1, (rv_dig h2).1⟩
theorem verify_ok : SpecOk Tryd.prog ShaMem 71 spVerify := by
  refine funSpec_ok (call_enters Tryd.func71 (by kernel_rfl) rfl) (fun xs p r hg hp => ?_)
  split at hg
  · rename_i k q v
    cases hq : asMem v with
    | none => rw [hq] at hg; cases hg
    | some x =>
      obtain ⟨p0, m⟩ := x
      rw [hq] at hg
      cases hg
      intro w ok0 vs hI hv
      have hd := vals_dig2 hv
      exact verify_fun _ _ m hd.1 hd.2 hp.2 w ok0 vs hI (vals_mem3 hq hp.1 vs hv)
  · cases hg
def pgL3 : List (Nat × Spec) := (71, spVerify) :: pgL2
theorem pg3_ok : ∀ p ∈ pgL3, SpecOk Tryd.prog ShaMem p.1 p.2 := by
  intro p hp
  rcases List.mem_cons.1 hp with rfl | hp
  · exact verify_ok
  · exact pg2_ok p hp
theorem pg3M : Mach Tryd.prog ShaMem (find pgL3) := ⟨specs_of pg3_ok, mixed_⟩
theorem bif_ne0 {b : Bool} {e : Int} (h : ((bif b then 0 else e) != 0) = true) : b = false := by
  cases b with
  | false => rfl
  | true => exact absurd (show ((0 : Int) != 0) = true from h) (by decide)
theorem bif_eq0 {b : Bool} {e : Int} (he : e ≠ 0) (h : ((bif b then 0 else e) != 0) = false) : b = true := by
  cases b with
  | true => rfl
  | false => exact absurd (by simpa using h) he
def inS (m : MemS) (i : Int) : Bool := bif decide (0 ≤ i) then decide (i < (m.pages.length : Int)) else false
def pgBox (m : MemS) (i : Int) : BoxS := m.pages.getD i.toNat default
def opS (key : List UInt8) (m : MemS) (i : Int) : Bool := opened (pageKeyS key i) (pgBox m i).nonce (pgBox m i).cipher (pgBox m i).tag
def loadE (key root : List UInt8) (m : MemS) (i : Int) : Int := bif verE key root m == 0 then (bif inS m i then (bif opS key m i then 0 else 8) else 1) else verE key root m
def loadV (key root : List UInt8) (m : MemS) (i : Int) : ByteArray := bif verE key root m == 0 then (bif inS m i then (bif opS key m i then strOf (applyS (pageKeyS key i) (pgBox m i).nonce (pgBox m i).cipher.data.toList) else { data := #[] }) else { data := #[] }) else { data := #[] }
def loadPV (key root : List UInt8) (m : MemS) (i : Int) : PV := .tup [.one (.lit (.string (loadV key root m i))), .one (.lit (.int .i64 (loadE key root m i)))]
set_option maxRecDepth 100000 in
theorem load_fun (key root : List UInt8) (m : MemS) (i : Int) (_ : key.length = 16) (_ : root.length = 16) (hm : MemOk m) (hi : i64P i) : FunOk Tryd.prog ShaMem 40 true [.w (.agg [.bs 16 key]), .w (.agg [.bs 16 root]), memPV m, pvI i] (loadPV key root m i) := by
  have M := pg3M
  refine funOk_of Tryd.func40 rfl rfl sha_ext (fun A hS hn hI => ?_)
  refine tri_reg M hI hn (outs := ?_) (s' := ?_) ?_ ?_ ?_ ?_
  rotate_left 2
  · rfl
  · kernel_rfl
  · simp
  refine tri_seq ?_
  refine tri_reg M hI hn (outs := ?_) (s' := ?_) ?_ ?_ ?_ ?_
  rotate_left 2
  · rfl
  · kernel_rfl
  · simp [hm]
  refine tri_reg M hI hn (outs := ?_) (s' := ?_) ?_ ?_ ?_ ?_
  rotate_left 2
  · rfl
  · kernel_rfl
  · simp
  refine tri_cond (b := ?_) ?_ (fun hc => ?_) (fun hc => ?_)
  rotate_left 1
  · rfl
  · refine tri_reg M hI hn (outs := ?_) (s' := ?_) ?_ ?_ ?_ ?_
    rotate_left 2
    · rfl
    · kernel_rfl
    · simp
    refine tri_ret (fun a w hg => ⟨.inr rfl, _, ?_, hg⟩)
    refine retTo_cold (out := ?_) ?_ ?_ ?_ ?_ ?_
    rotate_left 1
    · rfl
    · simp
    · rfl
    · rfl
    simp only [rowBox_boxF, rowInt_intF] at hc ⊢
    have h1 : (verE key root m != 0) = true := hc
    have h2 : (verE key root m == 0) = false := by simpa using h1
    refine Eq.trans (b := PV.tup [.one (.lit (.string { data := #[] })), .one (.lit (.int .i64 (verE key root m)))]) rfl ?_
    simp [loadPV, loadE, loadV, h2]
  · refine tri_skip ?_
    change Tri _ _ _ _ _
    simp only [rowBox_boxF, rowInt_intF] at hc
    have h1 : (verE key root m != 0) = false := hc
    have h2 : (verE key root m == 0) = true := by simpa using h1
    refine tri_seq ?_
    refine tri_reg M hI hn (outs := ?_) (s' := ?_) ?_ ?_ ?_ ?_
    rotate_left 2
    · rfl
    · kernel_rfl
    · simp
    refine tri_reg M hI hn (outs := ?_) (s' := ?_) ?_ ?_ ?_ ?_
    rotate_left 2
    · rfl
    · kernel_rfl
    · simp
    refine tri_cond (b := ?_) ?_ (fun hc => ?_) (fun hc => ?_)
    rotate_left 1
    · rfl
    · have h3 : inS m i = false := bif_ne0 hc
      refine tri_reg M hI hn (outs := ?_) (s' := ?_) ?_ ?_ ?_ ?_
      rotate_left 2
      · rfl
      · kernel_rfl
      · simp
      refine tri_ret (fun a w hg => ⟨.inr rfl, _, ?_, hg⟩)
      refine retTo_cold (out := ?_) ?_ ?_ ?_ ?_ ?_
      rotate_left 1
      · rfl
      · simp
      · rfl
      · rfl
      refine Eq.trans (b := PV.tup [.one (.lit (.string { data := #[] })), .one (.lit (.int .i64 (bif inS m i then 0 else 1)))]) rfl ?_
      simp [loadPV, loadE, loadV, h2, h3]
    · refine tri_skip ?_
      change Tri _ _ _ _ _
      have h3 : inS m i = true := bif_eq0 (by decide) hc
      have h4 : 0 ≤ i ∧ i < (m.pages.length : Int) := by
        unfold inS at h3
        simpa using h3
      have h5 : i.toNat < m.pages.length := by omega
      have hb := hm.box _ (getD_mem h5 default)
      simp only [List.getD_eq_getElem?_getD] at hb
      refine tri_reg M hI hn (outs := ?_) (s' := ?_) ?_ ?_ ?_ ?_
      rotate_left 2
      · rfl
      · kernel_rfl
      · simp
        exact ⟨hi, h4, hb.1, by omega⟩
      refine tri_reg M hI hn (outs := ?_) (s' := ?_) ?_ ?_ ?_ ?_
      rotate_left 2
      · rfl
      · kernel_rfl
      · simp
      refine tri_ret (fun a w hg => ⟨.inr rfl, _, ?_, hg⟩)
      refine retTo_cold (out := ?_) ?_ ?_ ?_ ?_ ?_
      rotate_left 1
      · rfl
      · simp
      · rfl
      · rfl
      refine Eq.trans (b := PV.tup [.one (.lit (.string (bif (bif opS key m i then (0 : Int) else 8) == 0 then (bif opS key m i then strOf (applyS (pageKeyS key i) (pgBox m i).nonce (pgBox m i).cipher.data.toList) else { data := #[] }) else { data := #[] }))), .one (.lit (.int .i64 (bif (bif opS key m i then (0 : Int) else 8) == 0 then 0 else 8)))]) rfl ?_
      simp only [loadPV, loadE, loadV, h2, h3, cond_true]
      cases opS key m i <;> simp

end Go.Proofs.YtcjlkjcadaaleaaDoor.Pv

/-
  Package page by the abstract machine: Store.
-/
namespace Go.Proofs.YtcjlkjcadaaleaaDoor.Pv
open Go.RowKit

def spLoad : Spec := funSpec true fun xs => match xs with
  | [.w (.agg [.bs 16 k]), .w (.agg [.bs 16 r]), v, .w (.one (.lit (.int .i64 i)))] => (match asMem v with
    | some (p, m) => some (p ∧ MemOk m ∧ i64P i, loadPV k r m i)
    | none => none)
  | _ => none
theorem pgLoad_ok : SpecOk Tryd.prog ShaMem 40 spLoad := by
  refine funSpec_ok (call_enters Tryd.func40 (by kernel_rfl) rfl) (fun xs p r hg hp => ?_)
  split at hg
  · rename_i k q v i
    cases hq : asMem v with
    | none => rw [hq] at hg; cases hg
    | some x =>
      obtain ⟨p0, m⟩ := x
      rw [hq] at hg
      cases hg
      intro w ok0 vs hI hv
      have hd := vals_dig2 hv
      exact load_fun _ _ m _ hd.1 hd.2 hp.2.1 hp.2.2 w ok0 vs hI (vals_mem3 hq hp.1 vs hv)
  · cases hg
def pgL4 : List (Nat × Spec) := (40, spLoad) :: pgL3
theorem pg4_ok : ∀ p ∈ pgL4, SpecOk Tryd.prog ShaMem p.1 p.2 := by
  intro p hp
  rcases List.mem_cons.1 hp with rfl | hp
  · exact pgLoad_ok
  · exact pg3_ok p hp
theorem pg4M : Mach Tryd.prog ShaMem (find pgL4) := ⟨specs_of pg4_ok, mixed_⟩
def sealB (k : List UInt8) (n : Int) (c : ByteArray) : BoxS := ⟨n, strOf (applyS k n c.data.toList), tagS k n (applyS k n c.data.toList)⟩
def wrapI (n : Int) : Int := IntKind.i64.wrap n
/-- What Store makes of a memory, before it is tagged. -/
def pgPut (key : List UInt8) (m : MemS) (i : Int) (c : ByteArray) : MemS :=
  { pages := m.pages.set i.toNat (sealB (pageKeyS key i) (wrapI (m.total + 1)) c), counts := m.counts.set i.toNat (wrapI (m.counts.getD i.toNat 0 + 1)), total := wrapI (m.total + 1), tag := List.replicate 16 0 }
def pgSt (key root : List UInt8) (m : MemS) (i : Int) (c : ByteArray) : MemS :=
  bif loadE key root m i == 0 then { pgPut key m i c with tag := memTagS key (memRootS (pgPut key m i c)) } else ⟨[], [], 0, List.replicate 16 0⟩
def storeR (key root : List UInt8) (m : MemS) (i : Int) (c : ByteArray) : List UInt8 := bif loadE key root m i == 0 then memRootS (pgPut key m i c) else List.replicate 16 0
def storePV (key root : List UInt8) (m : MemS) (i : Int) (c : ByteArray) : PV := .tup [.agg (memL (pgSt key root m i c)), .agg [.bs 16 (storeR key root m i c)], .one (.lit (.int .i64 (loadE key root m i)))]
theorem wrap_i64P (n : Int) : i64P (IntKind.i64.wrap n) := by
  rw [IntKind.wrap_i64]
  unfold i64P
  omega
theorem boxF_set (l : List BoxS) (i : Nat) (b : BoxS) (hi : i < l.length) (j : Nat) : boxF (l.set i b) j = if j = i then boxPC b else boxF l j := by
  unfold boxF
  by_cases h : j = i
  · subst h
    rw [if_pos rfl, List.getD_eq_getElem?_getD, List.getElem?_set_self hi]
    rfl
  · rw [if_neg h, List.getD_eq_getElem?_getD, List.getElem?_set_ne (Ne.symm h), List.getD_eq_getElem?_getD]
theorem intF_set (l : List Int) (i : Nat) (b : Int) (hi : i < l.length) (j : Nat) : intF (l.set i b) j = if j = i then [.lit (.int .i64 b)] else intF l j := by
  unfold intF
  by_cases h : j = i
  · subst h
    rw [if_pos rfl, List.getD_eq_getElem?_getD, List.getElem?_set_self hi]
    rfl
  · rw [if_neg h, List.getD_eq_getElem?_getD, List.getElem?_set_ne (Ne.symm h), List.getD_eq_getElem?_getD]
theorem pgPut_ok {m : MemS} (hm : MemOk m) (key : List UInt8) (i : Int) (c : ByteArray) (t : List UInt8) (hc : c.size ≤ 5000) (ht : t.length = 16) : MemOk { pgPut key m i c with tag := t } := by
  refine ⟨fun b hb => ?_, fun x hx => ?_, wrap_i64P _, ht, by simpa [pgPut] using hm.len⟩
  · rcases List.mem_or_eq_of_mem_set hb with h | rfl
    · exact hm.box b h
    · refine ⟨wrap_i64P _, ?_, tagS_length _ _ _⟩
      unfold sealB
      rw [strOf_size, applyS_length]
      exact hc
  · rcases List.mem_or_eq_of_mem_set hx with h | rfl
    · exact hm.cnt x h
    · exact wrap_i64P _
def storeSt (key : List UInt8) (o : MemS) : St := ⟨[(5, none, pv1 (.pt 0 0 0)), (10, none, pv1 (.pt 3 0 0)), (11, none, pv1 (.pt 4 0 0)), (15, none, pv1 (.pt 4010 0 0))],
  [(0, none, 0, .box 23 [.bs 16 key]), (3, none, 0, .box 60 [.lit (.slice none 0 0), .lit (.slice none 0 0), .lit (.int .i64 0), .bs 16 (List.replicate 16 0)]), (4, none, 0, .box 23 [.bs 16 (List.replicate 16 0)]),
   (4002, none, 0, .arr 27 18 o.pages.length (boxF o.pages)), (4005, none, 0, .arr 3 1 o.counts.length (intF o.counts)), (4010, none, 0, .box 60 [.ow 4002 0 18 0 o.pages.length, .ow 4005 0 1 0 o.counts.length, .lit (.int .i64 o.total), .bs 16 (List.replicate 16 0)])]⟩
set_option maxRecDepth 100000 in
theorem pgStore_fun (key root : List UInt8) (m : MemS) (i : Int) (c : ByteArray) (_ : key.length = 16) (_ : root.length = 16) (hm : MemOk m) (hi : i64P i) (hcs : c.size ≤ 5000) : FunOk Tryd.prog ShaMem 65 true [.w (.agg [.bs 16 key]), .w (.agg [.bs 16 root]), memPV m, pvI i, pv1 (.lit (.string c))] (storePV key root m i c) := by
  have M := pg4M
  refine funOk_of Tryd.func65 rfl rfl sha_ext (fun A hS hn hI => ?_)
  refine tri_reg M hI hn (outs := ?_) (s' := ?_) ?_ ?_ ?_ ?_
  rotate_left 2
  · rfl
  · kernel_rfl
  · simp
  refine tri_seq ?_
  refine tri_reg M hI hn (outs := ?_) (s' := ?_) ?_ ?_ ?_ ?_
  rotate_left 2
  · rfl
  · kernel_rfl
  · simp [hm, hi]
  refine tri_reg M hI hn (outs := ?_) (s' := ?_) ?_ ?_ ?_ ?_
  rotate_left 2
  · rfl
  · kernel_rfl
  · simp
  refine tri_cond (b := ?_) ?_ (fun hc => ?_) (fun hc => ?_)
  rotate_left 1
  · rfl
  · refine tri_reg M hI hn (outs := ?_) (s' := ?_) ?_ ?_ ?_ ?_
    rotate_left 2
    · rfl
    · kernel_rfl
    · simp
    simp only [rowBox_boxF, rowInt_intF] at hc
    have h1 : (loadE key root m i != 0) = true := hc
    have h2 : (loadE key root m i == 0) = false := by simpa using h1
    refine tri_ret (fun a w hg => ⟨.inr rfl, _, ?_, hg⟩)
    refine retTo_ex (out := ?_) ?_ ?_ ?_ ?_
    rotate_left 1
    · rfl
    · simp
    · rfl
    · have e : storePV key root m i c = .tup [.agg [.sl 18 0 (boxF []), .sl 1 0 (intF []), .lit (.int .i64 0), .bs 16 (List.replicate 16 0)], .agg [.bs 16 (List.replicate 16 0)], .one (.lit (.int .i64 (loadE key root m i)))] := by
        simp [storePV, pgSt, storeR, memL, h2]
      rw [e]
      simp only [rowBox_boxF, rowInt_intF]
      exact .tup (.cons (.agg (.cons .nil (.cons .nil (.cons (.cold rfl) (.cons (.cold rfl) .nil))))) (.cons (.agg (.cons (.cold rfl) .nil)) (.cons (.one (.cold rfl)) .nil)))
  · refine tri_skip ?_
    change Tri _ _ _ _ _
    simp only [rowBox_boxF, rowInt_intF] at hc
    have h1 : (loadE key root m i != 0) = false := hc
    have h2 : (loadE key root m i == 0) = true := by simpa using h1
    refine tri_reg M hI hn (outs := ?_) (s' := ?_) ?_ ?_ ?_ ?_
    rotate_left 2
    · rfl
    · kernel_rfl
    · simp [hm.len]
    have h3 : inS m i = true := by
      unfold loadE at h2
      cases hv : inS m i with
      | true => rfl
      | false =>
        rw [hv] at h2
        cases hw : (verE key root m == 0) with
        | true => rw [hw] at h2; exact absurd (show ((1 : Int) == 0) = true from h2) (by decide)
        | false => rw [hw] at h2; exact absurd (show (verE key root m == 0) = true from h2) (by rw [hw]; decide)
    have h4 : formedS m = true := by
      cases hv : formedS m with
      | true => rfl
      | false =>
        have : (verE key root m) = 8 := by simp [verE, tagOkS, hv]
        rw [loadE, this] at h2
        exact absurd (show ((8 : Int) == 0) = true from h2) (by decide)
    have h5 : 0 ≤ i ∧ i < (m.pages.length : Int) := by
      unfold inS at h3
      simpa using h3
    have h6 : m.pages.length = m.counts.length ∧ m.pages.length ≤ 16 := by
      unfold formedS at h4
      rw [Bool.and_eq_true, beq_iff_eq, decide_eq_true_eq] at h4
      exact h4
    have h7 := wrap_i64P (m.total + 1)
    refine tri_reg M hI hn (outs := ?_) (s' := ?_) ?_ ?_ ?_ ?_
    rotate_left 2
    · rfl
    · kernel_rfl
    · simp
      omega
    refine tri_reg M hI hn (outs := ?_) (s' := ?_) ?_ ?_ ?_ ?_
    rotate_left 2
    · rfl
    · kernel_rfl
    · simp
      exact ⟨hi, ⟨h7, by omega⟩, h5, by omega⟩
    refine tri_conv (s' := storeSt key (pgPut key m i c)) (fun a w hg => (hg.reset (kT := [5, 10, 11, 15]) (kO := [0, 3, 4, 4002, 4005, 4010]) (by rfl) ?_).same ?_ ?_) ?_
    · simp only [All, and_true, List.append_nil, List.all_eq_true, List.cons_append, List.nil_append]
      refine ⟨fun j _ x hx => ?_, fun j _ x hx => ?_⟩
      · split at hx
        · exact List.all_eq_true.1 (show List.all _ _ = true from rfl) x hx
        · exact List.all_eq_true.1 (show (boxF _ j).all (coldPC false) = true from rfl) x hx
      · split at hx
        · exact List.all_eq_true.1 (show List.all _ _ = true from rfl) x hx
        · exact List.all_eq_true.1 (show (intF _ j).all (coldPC false) = true from rfl) x hx
    · exact .cons rfl (.cons rfl (.cons rfl (.cons rfl .nil)))
    · refine .cons (.box rfl) (.cons (.box rfl) (.cons (.box rfl) (.cons (.arr ?_ ?_) (.cons (.arr ?_ ?_) (.cons (.box ?_) .nil)))))
      · simp [pgPut]
      · intro j hj
        rw [rowBox_boxF, Nat.zero_add]
        unfold pgPut
        rw [boxF_set _ _ _ (by omega)]
        rfl
      · simp [pgPut]
      · intro j hj
        rw [rowInt_intF, Nat.zero_add]
        unfold pgPut
        rw [intF_set _ _ _ (by omega)]
        rfl
      · simp [pgPut]
        rfl
    refine tri_reg M hI hn (outs := ?_) (s' := ?_) ?_ ?_ ?_ ?_
    rotate_left 2
    · rfl
    · kernel_rfl
    · simp
      exact ⟨fun j _ x hx => List.all_eq_true.1 (show (boxF _ j).all (coldPC false) = true from rfl) x hx, fun j _ x hx => List.all_eq_true.1 (show (intF _ j).all (coldPC false) = true from rfl) x hx, pgPut_ok hm key i c _ hcs rfl⟩
    refine tri_reg M hI hn (outs := ?_) (s' := ?_) ?_ ?_ ?_ ?_
    rotate_left 2
    · rfl
    · kernel_rfl
    · simp
    refine tri_reg M hI hn (outs := ?_) (s' := ?_) ?_ ?_ ?_ ?_
    rotate_left 2
    · rfl
    · kernel_rfl
    · simp
    refine tri_ret (fun a w hg => ⟨.inr rfl, _, ?_, hg⟩)
    refine retTo_ex (out := ?_) ?_ ?_ ?_ ?_
    rotate_left 1
    · rfl
    · simp
    · rfl
    · have h8 : loadE key root m i = 0 := by simpa using h2
      have e : storePV key root m i c = .tup [.agg [.sl 18 (pgPut key m i c).pages.length (boxF (pgPut key m i c).pages), .sl 1 (pgPut key m i c).counts.length (intF (pgPut key m i c).counts), .lit (.int .i64 (pgPut key m i c).total), .bs 16 (memTagS key (memRootS (pgPut key m i c)))], .agg [.bs 16 (memRootS (pgPut key m i c))], .one (.lit (.int .i64 0))] := by
        simp [storePV, pgSt, storeR, memL, h8]
      rw [e]
      simp only [Nat.zero_add, rowBox_boxF, rowInt_intF]
      exact .tup (.cons (.agg (.cons (.row rfl trivial (by omega) (fun j hj => by rw [Nat.zero_add]) (fun j hj => rfl)) (.cons (.row rfl trivial (by omega) (fun j hj => by rw [Nat.zero_add]) (fun j hj => rfl)) (.cons (.cold rfl) (.cons (.cold rfl) .nil))))) (.cons (.agg (.cons (.cold rfl) .nil)) (.cons (.one (.cold rfl)) .nil)))

end Go.Proofs.YtcjlkjcadaaleaaDoor.Pv

/-
  Package page by the abstract machine: New.
-/
namespace Go.Proofs.YtcjlkjcadaaleaaDoor.Pv
open Go.RowKit

def strF (l : List ByteArray) : Nat → List PC := fun i => [.lit (.string (l.getD i { data := #[] }))]
def strOfPC : List PC → ByteArray
  | [.lit (.string c)] => c
  | _ => { data := #[] }
def isStr : List PC → Bool
  | [.lit (.string _)] => true
  | _ => false
def rowStr (n : Nat) (f : Nat → List PC) : List ByteArray := (List.range n).map fun i => strOfPC (f i)
def IsStrRow (n : Nat) (f : Nat → List PC) : Prop := ∀ i, i < n → isStr (f i) = true
theorem isStr_ok {l : List PC} (h : isStr l = true) : l = [.lit (.string (strOfPC l))] := by
  unfold isStr at h
  split at h
  · rfl
  · cases h
@[simp] theorem rowStr_length (n : Nat) (f : Nat → List PC) : (rowStr n f).length = n := by simp [rowStr]
theorem strF_row {n : Nat} {f : Nat → List PC} (h : IsStrRow n f) : ∀ i, i < n → f i = strF (rowStr n f) i := fun i hi => by
  unfold strF rowStr
  rw [List.getD_eq_getElem?_getD, List.getElem?_map, List.getElem?_range hi]
  exact isStr_ok (h i hi)
@[simp] theorem isStrRow_strF (n : Nat) (l : List ByteArray) : IsStrRow n (strF l) := fun _ _ => rfl
@[simp] theorem rowStr_strF (l : List ByteArray) : rowStr l.length (strF l) = l := by
  apply List.ext_getElem (by simp)
  intro i h1 h2
  simp only [rowStr, List.getElem_map, List.getElem_range, strF, strOfPC]
  rw [List.getD_eq_getElem?_getD, List.getElem?_eq_getElem h2]
  rfl
def newPages (key : List UInt8) (l : List ByteArray) (n : Nat) : List BoxS := (List.range n).map fun (i : Nat) => sealB (pageKeyS key (i : Int)) 0 (l.getD i { data := #[] })
def newU (key : List UInt8) (l : List ByteArray) : MemS := ⟨newPages key l l.length, List.replicate l.length 0, 0, List.replicate 16 0⟩
def newM (key : List UInt8) (l : List ByteArray) : MemS := bif decide (l.length ≤ 16) then { newU key l with tag := memTagS key (memRootS (newU key l)) } else ⟨[], [], 0, List.replicate 16 0⟩
def newR (key : List UInt8) (l : List ByteArray) : List UInt8 := bif decide (l.length ≤ 16) then memRootS (newU key l) else List.replicate 16 0
def newE (l : List ByteArray) : Int := bif decide (l.length ≤ 16) then 0 else 2
def newPV (key : List UInt8) (l : List ByteArray) : PV := .tup [.agg (memL (newM key l)), .agg [.bs 16 (newR key l)], .one (.lit (.int .i64 (newE l)))]
def sealF (key : List UInt8) (l : List ByteArray) : Nat → List PC := fun (i : Nat) => boxPC (sealB (pageKeyS key (i : Int)) 0 (l.getD i { data := #[] }))
def newSt (key : List UInt8) (l : List ByteArray) (k : Nat) : St := ⟨[(2, none, pv1 (.pt 0 0 0)), (4, none, pv1 (.pt 1 0 0)), (5, none, pv1 (.pt 2 0 0)), (7, none, pv1 (.pt 3004 0 0)), (20, none, pv1 (.sl 1 l.length (strF l))), (21, none, pvI l.length), (22, none, pvI k)],
  [(0, none, 0, .box 23 [.bs 16 key]), (1, none, 0, .box 60 [.lit (.slice none 0 0), .lit (.slice none 0 0), .lit (.int .i64 0), .bs 16 (List.replicate 16 0)]), (2, none, 0, .box 23 [.bs 16 (List.replicate 16 0)]),
   (3002, none, 0, .arr 3 1 l.length (intF (List.replicate l.length 0))), (3004, none, 0, .box 60 [.ow 7008 0 18 0 k, .ow 3002 0 1 0 l.length, .lit (.int .i64 0), .bs 16 (List.replicate 16 0)]), (7008, none, 0, .arr 27 18 k (sealF key l))]⟩
theorem boxF_new (key : List UInt8) (l : List ByteArray) {n j : Nat} (hj : j < n) : boxF (newPages key l n) j = sealF key l j := by
  unfold boxF newPages sealF
  rw [getD_map_range n j _ hj]
theorem rowInt_zeros (n : Nat) : rowInt n (fun i => intF (List.replicate n 0) i) = List.replicate n 0 := by
  have := rowInt_intF (List.replicate n 0)
  rwa [List.length_replicate] at this
theorem i64P_zero : i64P 0 := ⟨by decide, by decide⟩
theorem newU_ok (key : List UInt8) (l : List ByteArray) (t : List UInt8) (hl : l.length ≤ 16) (hc : ∀ c ∈ l, c.size ≤ 5000) (ht : t.length = 16) : MemOk { newU key l with tag := t } := by
  refine ⟨fun b hb => ?_, fun x hx => ?_, i64P_zero, ht, by simp [newU, newPages]; omega⟩
  · obtain ⟨i, hi, rfl⟩ := List.mem_map.1 hb
    refine ⟨i64P_zero, ?_, tagS_length _ _ _⟩
    unfold sealB
    rw [strOf_size, applyS_length]
    exact hc _ (getD_mem (List.mem_range.1 hi) _)
  · rw [List.eq_of_mem_replicate hx]; exact i64P_zero
theorem all_cold {l : List PC} (h : l.all (coldPC false) = true) : ∀ x ∈ l, coldPC false x = true := fun x hx => List.all_eq_true.1 h x hx
set_option maxRecDepth 100000 in
theorem pgNew_fun (key : List UInt8) (l : List ByteArray) (_ : key.length = 16) (hl : ∀ c ∈ l, c.size ≤ 5000) : FunOk Tryd.prog ShaMem 36 true [.w (.agg [.bs 16 key]), pv1 (.sl 1 l.length (strF l))] (newPV key l) := by
  have M := pg4M
  have hbt : Tryd.prog.types[27].bytes = 40 := by kernel_rfl
  have hbi : Tryd.prog.types[3].bytes = 8 := by kernel_rfl
  refine funOk_of Tryd.func36 rfl rfl sha_ext (fun A hS hn hI => ?_)
  refine tri_reg M hI hn (outs := ?_) (s' := ?_) ?_ ?_ ?_ ?_
  rotate_left 2
  · rfl
  · kernel_rfl
  · simp
  refine tri_seq ?_
  refine tri_reg M hI hn (outs := ?_) (s' := ?_) ?_ ?_ ?_ ?_
  rotate_left 2
  · rfl
  · kernel_rfl
  · simp
  refine tri_cond (b := ?_) ?_ (fun hc => ?_) (fun hc => ?_)
  rotate_left 1
  · rfl
  · refine tri_reg M hI hn (outs := ?_) (s' := ?_) ?_ ?_ ?_ ?_
    rotate_left 2
    · rfl
    · kernel_rfl
    · simp
    have h1 : ¬ l.length ≤ 16 := by
      have : (16 : Int) < (l.length : Int) := by simpa using hc
      omega
    refine tri_ret (fun a w hg => ⟨.inr rfl, _, ?_, hg⟩)
    refine retTo_ex (out := ?_) ?_ ?_ ?_ ?_
    rotate_left 1
    · rfl
    · simp
    · rfl
    · have e : newPV key l = .tup [.agg [.sl 18 0 (boxF []), .sl 1 0 (intF []), .lit (.int .i64 0), .bs 16 (List.replicate 16 0)], .agg [.bs 16 (List.replicate 16 0)], .one (.lit (.int .i64 2))] := by
        simp [newPV, newM, newR, newE, memL, h1]
      rw [e]
      exact .tup (.cons (.agg (.cons .nil (.cons .nil (.cons (.cold rfl) (.cons (.cold rfl) .nil))))) (.cons (.agg (.cons (.cold rfl) .nil)) (.cons (.one (.cold rfl)) .nil)))
  · have h1 : l.length ≤ 16 := by
      have : ¬ (16 : Int) < (l.length : Int) := by simpa using hc
      omega
    refine tri_skip ?_
    change Tri _ _ _ _ _
    refine tri_reg M hI hn (outs := ?_) (s' := ?_) ?_ ?_ ?_ ?_
    rotate_left 2
    · rfl
    · kernel_rfl
    · simp
      rw [hbi]
      omega
    refine tri_seq ?_
    refine tri_reg M hI hn (outs := ?_) (s' := ?_) ?_ ?_ ?_ ?_
    rotate_left 2
    · rfl
    · kernel_rfl
    · simp
    refine tri_conv (s' := newSt key l 0) (fun a w hg => ((hg.nilRowB (x := 7008) (b := 3004) (e := 27) (n := 18) (l1 := []) (by rfl) (by rfl)).reset (kT := [2, 4, 5, 7, 20, 21, 22]) (kO := [0, 1, 2, 3002, 3004, 7008]) (by rfl) ?_).same ?_ ?_) ?_
    · simp
      exact fun _ _ => rfl
    · exact .cons rfl (.cons rfl (.cons rfl (.cons rfl (.cons rfl (.cons rfl (.cons rfl .nil))))))
    · refine .cons (.box rfl) (.cons (.box rfl) (.cons (.box rfl) (.cons (.arr rfl (fun i hi => ?_)) (.cons (.box rfl) (.cons (.arr rfl (fun i hi => by omega)) .nil)))))
      unfold intF
      rw [List.getD_eq_getElem?_getD, List.getElem?_replicate]
      split <;> rfl
    refine tri_block ?_
    refine tri_loop l.length (fun k s => s = newSt key l k) 0 rfl (by omega) (fun k s hJ hkl => ?_)
    subst hJ
    refine tri_reg M hI hn (outs := ?_) (s' := ?_) ?_ ?_ ?_ ?_
    rotate_left 2
    · rfl
    · kernel_rfl
    · simp
    refine tri_seq ?_
    refine tri_cond (b := ?_) ?_ (fun hc => ?_) (fun hc => ?_)
    rotate_left 1
    · rfl
    · have hk2 : k < l.length := by simpa using hc
      refine tri_skip ?_
      change Tri _ _ _ _ _
      refine tri_seq ?_
      refine tri_block ?_
      refine tri_reg M hI hn (outs := ?_) (s' := ?_) ?_ ?_ ?_ ?_
      rotate_left 2
      · rfl
      · kernel_rfl
      · simp
        exact hk2
      refine tri_region M hI hn (outs := ?_) (s' := ?_) ?_ ?_ ?_ ?_
      rotate_left 2
      · rfl
      · kernel_rfl
      · simp [hbt]
        have := hl _ (getD_mem hk2 { data := #[] })
        rw [List.getD_eq_getElem?_getD] at this
        exact ⟨by unfold i64P; omega, ⟨i64P_zero, by omega⟩, by omega⟩
      change Tri _ _ _ _ _
      refine tri_region M hI hn (outs := ?_) (s' := ?_) ?_ ?_ ?_ ?_
      rotate_left 2
      · rfl
      · kernel_rfl
      · simp
      intro a w hg
      refine ⟨k + 1, _, by omega, by omega, rfl, (hg.reset (kT := [2, 4, 5, 7, 20, 21, 22]) (kO := [0, 1, 2, 3002, 3004, 7008]) (by rfl) ?_).same ?_ ?_⟩
      · simp
        exact ⟨fun j _ => all_cold (show (intF _ j).all (coldPC false) = true from rfl), appF_cold (fun j _ => all_cold (show (sealF _ _ j).all (coldPC false) = true from rfl)) (all_cold rfl)⟩
      · exact .cons rfl (.cons rfl (.cons rfl (.cons rfl (.cons rfl (.cons rfl (.cons (by rw [wrap_nat k (by omega)]) .nil))))))
      · refine .cons (.box rfl) (.cons (.box rfl) (.cons (.box rfl) (.cons (.arr rfl (fun i hi => rfl)) (.cons (.box rfl) (.cons (.arr rfl (appF_ext (fun i _ => rfl) rfl)) .nil)))))
    · refine tri_exit ?_
      change Tri _ _ _ _ _
      have hk3 : k = l.length := by
        have : ¬ k < l.length := by simpa using hc
        omega
      subst hk3
      refine tri_reg M hI hn (outs := ?_) (s' := ?_) ?_ ?_ ?_ ?_
      rotate_left 2
      · rfl
      · kernel_rfl
      · simp
        refine ⟨fun j _ => all_cold (show (sealF _ _ j).all (coldPC false) = true from rfl), fun j _ => all_cold (show (intF _ j).all (coldPC false) = true from rfl), fun _ _ => rfl, ?_⟩
        have h3 := newU_ok key l (List.replicate 16 0) h1 hl rfl
        have h4 : rowBox l.length (fun i => sealF key l i) = newPages key l l.length := rfl
        rw [h4, rowInt_zeros]
        exact h3
      refine tri_reg M hI hn (outs := ?_) (s' := ?_) ?_ ?_ ?_ ?_
      rotate_left 2
      · rfl
      · kernel_rfl
      · simp
      refine tri_reg M hI hn (outs := ?_) (s' := ?_) ?_ ?_ ?_ ?_
      rotate_left 2
      · rfl
      · kernel_rfl
      · simp
      refine tri_ret (fun a w hg => ⟨.inr rfl, _, ?_, hg⟩)
      refine retTo_ex (out := ?_) ?_ ?_ ?_ ?_
      rotate_left 1
      · rfl
      · simp
      · rfl
      · have e : newPV key l = .tup [.agg [.sl 18 l.length (boxF (newPages key l l.length)), .sl 1 l.length (intF (List.replicate l.length 0)), .lit (.int .i64 0), .bs 16 (memTagS key (memRootS (newU key l)))], .agg [.bs 16 (memRootS (newU key l))], .one (.lit (.int .i64 0))] := by
          simp [newPV, newM, newR, newE, memL, h1, newU, newPages]
        rw [e]
        have h4 : rowBox l.length (fun i => sealF key l i) = newPages key l l.length := rfl
        simp only [Nat.zero_add, h4, rowInt_zeros]
        exact .tup (.cons (.agg (.cons (.row rfl trivial (by omega) (fun j hj => by rw [Nat.zero_add]; exact (boxF_new key l hj).symm) (fun j hj => rfl)) (.cons (.row rfl trivial (by omega) (fun j hj => by rw [Nat.zero_add]) (fun j hj => rfl)) (.cons (.cold rfl) (.cons (.cold rfl) .nil))))) (.cons (.agg (.cons (.cold rfl) .nil)) (.cons (.one (.cold rfl)) .nil)))

end Go.Proofs.YtcjlkjcadaaleaaDoor.Pv

/-
  SHA-256's rounds over natural numbers, quick to evaluate in the kernel, and that they are the rounds.
-/
namespace Go.Proofs.YtcjlkjcadaaleaaDoor

/-- n, evaluated first. -/
def forceN {α : Type} (n : Nat) (f : Nat → α) : α := Nat.rec (motive := fun _ => α) (f 0) (fun m _ => f (Nat.succ m)) n
theorem forceN_eq {α : Type} (n : Nat) (f : Nat → α) : forceN n f = f n := by cases n <;> rfl

def addN (a b : Nat) : Nat := Nat.mod (Nat.add a b) 4294967296
def rotN (x n m : Nat) : Nat := Nat.lor (Nat.shiftRight x n) (Nat.mod (Nat.shiftLeft x m) 4294967296)
def sig0N (x : Nat) : Nat := Nat.xor (Nat.xor (rotN x 7 25) (rotN x 18 14)) (Nat.shiftRight x 3)
def sig1N (x : Nat) : Nat := Nat.xor (Nat.xor (rotN x 17 15) (rotN x 19 13)) (Nat.shiftRight x 10)
def t1N (e f g h k w : Nat) : Nat := addN (addN (addN (addN h (Nat.xor (Nat.xor (rotN e 6 26) (rotN e 11 21)) (rotN e 25 7))) (Nat.xor (Nat.land e f) (Nat.land (Nat.sub 4294967295 e) g))) k) w
def t2N (a b c : Nat) : Nat := addN (Nat.xor (Nat.xor (rotN a 2 30) (rotN a 13 19)) (rotN a 22 10)) (Nat.xor (Nat.xor (Nat.land a b) (Nat.land a c)) (Nat.land b c))
def nwN (w0 w1 w9 w14 : Nat) : Nat := addN (addN (addN w0 (sig0N w1)) w9) (sig1N w14)
def fRounds : List Nat → Nat → Nat → Nat → Nat → Nat → Nat → Nat → Nat → Nat → Nat → Nat → Nat → Nat → Nat → Nat → Nat → Nat → Nat → Nat → Nat → Nat → Nat → Nat → Nat → List Nat
  | [], _, _, _, _, _, _, _, _, _, _, _, _, _, _, _, _, a, b, c, d, e, f, g, h => [a, b, c, d, e, f, g, h]
  | k :: ks, w0, w1, w2, w3, w4, w5, w6, w7, w8, w9, w10, w11, w12, w13, w14, w15, a, b, c, d, e, f, g, h =>
    forceN (t1N e f g h k w0) fun t => forceN (addN t (t2N a b c)) fun x => forceN (addN d t) fun y => forceN (nwN w0 w1 w9 w14) fun n =>
      fRounds ks w1 w2 w3 w4 w5 w6 w7 w8 w9 w10 w11 w12 w13 w14 w15 n x a b c y e f g

/-- The same over words. -/
def t1W (e f g h k w : UInt32) : UInt32 := h + ((rotrW e 6 ^^^ rotrW e 11) ^^^ rotrW e 25) + ((e &&& f) ^^^ (~~~e &&& g)) + k + w
def t2W (a b c : UInt32) : UInt32 := ((rotrW a 2 ^^^ rotrW a 13) ^^^ rotrW a 22) + (((a &&& b) ^^^ (a &&& c)) ^^^ (b &&& c))
def nwW (w0 w1 w9 w14 : UInt32) : UInt32 := w0 + ((rotrW w1 7 ^^^ rotrW w1 18) ^^^ (w1 >>> 3)) + w9 + ((rotrW w14 17 ^^^ rotrW w14 19) ^^^ (w14 >>> 10))
def gRounds : List UInt32 → UInt32 → UInt32 → UInt32 → UInt32 → UInt32 → UInt32 → UInt32 → UInt32 → UInt32 → UInt32 → UInt32 → UInt32 → UInt32 → UInt32 → UInt32 → UInt32 → UInt32 → UInt32 → UInt32 → UInt32 → UInt32 → UInt32 → UInt32 → UInt32 → List UInt32
  | [], _, _, _, _, _, _, _, _, _, _, _, _, _, _, _, _, a, b, c, d, e, f, g, h => [a, b, c, d, e, f, g, h]
  | k :: ks, w0, w1, w2, w3, w4, w5, w6, w7, w8, w9, w10, w11, w12, w13, w14, w15, a, b, c, d, e, f, g, h =>
    gRounds ks w1 w2 w3 w4 w5 w6 w7 w8 w9 w10 w11 w12 w13 w14 w15 (nwW w0 w1 w9 w14) (t1W e f g h k w0 + t2W a b c) a b c (d + t1W e f g h k w0) e f g

theorem add_N (a b : UInt32) : addN a.toNat b.toNat = (a + b).toNat := (UInt32.toNat_add a b).symm
theorem rot_N (x : UInt32) (n m : Nat) (hn : 0 < n) (hn2 : n < 32) (hm : m = 32 - n) : rotN x.toNat n m = (rotrW x (UInt32.ofNat n)).toNat := by
  subst hm
  unfold rotN rotrW
  have e1 : (UInt32.ofNat n).toNat = n := by simp; omega
  have e2 : (32 - UInt32.ofNat n : UInt32).toNat = 32 - n := by
    rw [UInt32.toNat_sub]
    simp
    omega
  rw [UInt32.toNat_or, UInt32.toNat_shiftRight, UInt32.toNat_shiftLeft, e1, e2, Nat.mod_eq_of_lt hn2, Nat.mod_eq_of_lt (show 32 - n < 32 by omega)]
  rfl
theorem xor_N (a b : UInt32) : Nat.xor a.toNat b.toNat = (a ^^^ b).toNat := (UInt32.toNat_xor a b).symm
theorem and_N (a b : UInt32) : Nat.land a.toNat b.toNat = (a &&& b).toNat := (UInt32.toNat_and a b).symm
theorem not_N (a : UInt32) : Nat.sub 4294967295 a.toNat = (~~~a).toNat := by rw [UInt32.toNat_not]; rfl
theorem shr_N (a : UInt32) (n : Nat) (hn : n < 32) : Nat.shiftRight a.toNat n = (a >>> UInt32.ofNat n).toNat := by
  have e1 : (UInt32.ofNat n).toNat = n := by simp; omega
  rw [UInt32.toNat_shiftRight, e1, Nat.mod_eq_of_lt hn]
  rfl
theorem t1_N (e f g h k w : UInt32) : t1N e.toNat f.toNat g.toNat h.toNat k.toNat w.toNat = (t1W e f g h k w).toNat := by
  unfold t1N t1W
  rw [rot_N e 6 26 (by omega) (by omega) rfl, rot_N e 11 21 (by omega) (by omega) rfl, rot_N e 25 7 (by omega) (by omega) rfl, not_N, and_N, and_N, xor_N, xor_N, xor_N, add_N, add_N, add_N, add_N]
  rfl
theorem t2_N (a b c : UInt32) : t2N a.toNat b.toNat c.toNat = (t2W a b c).toNat := by
  unfold t2N t2W
  rw [rot_N a 2 30 (by omega) (by omega) rfl, rot_N a 13 19 (by omega) (by omega) rfl, rot_N a 22 10 (by omega) (by omega) rfl, and_N, and_N, and_N, xor_N, xor_N, xor_N, xor_N, add_N]
  rfl
theorem nw_N (w0 w1 w9 w14 : UInt32) : nwN w0.toNat w1.toNat w9.toNat w14.toNat = (nwW w0 w1 w9 w14).toNat := by
  unfold nwN nwW sig0N sig1N
  rw [rot_N w1 7 25 (by omega) (by omega) rfl, rot_N w1 18 14 (by omega) (by omega) rfl, rot_N w14 17 15 (by omega) (by omega) rfl, rot_N w14 19 13 (by omega) (by omega) rfl, shr_N w1 3 (by omega), shr_N w14 10 (by omega), xor_N, xor_N, xor_N, xor_N, add_N, add_N, add_N]
  rfl
theorem rounds_N : ∀ (ks : List UInt32) (w0 w1 w2 w3 w4 w5 w6 w7 w8 w9 w10 w11 w12 w13 w14 w15 a b c d e f g h : UInt32),
    fRounds (ks.map UInt32.toNat) w0.toNat w1.toNat w2.toNat w3.toNat w4.toNat w5.toNat w6.toNat w7.toNat w8.toNat w9.toNat w10.toNat w11.toNat w12.toNat w13.toNat w14.toNat w15.toNat a.toNat b.toNat c.toNat d.toNat e.toNat f.toNat g.toNat h.toNat =
      (gRounds ks w0 w1 w2 w3 w4 w5 w6 w7 w8 w9 w10 w11 w12 w13 w14 w15 a b c d e f g h).map UInt32.toNat
  | [], _, _, _, _, _, _, _, _, _, _, _, _, _, _, _, _, _, _, _, _, _, _, _, _ => rfl
  | k :: ks, w0, w1, w2, w3, w4, w5, w6, w7, w8, w9, w10, w11, w12, w13, w14, w15, a, b, c, d, e, f, g, h => by
    rw [List.map_cons, fRounds, gRounds, forceN_eq, forceN_eq, forceN_eq, forceN_eq, t1_N, t2_N, nw_N, add_N, add_N]
    exact rounds_N ks _ _ _ _ _ _ _ _ _ _ _ _ _ _ _ _ _ _ _ _ _ _ _ _

theorem sched_stable (b : List UInt8) (i m n : Nat) (h1 : i < m) (h2 : m ≤ n) : (schedAt b n).getD i 0 = (schedAt b m).getD i 0 := by
  induction n with
  | zero => omega
  | succ n ih =>
    rcases Nat.lt_or_ge m (n + 1) with h | h
    · rw [schedAt, List.getD_eq_getElem?_getD, List.getElem?_append_left (by rw [schedAt_length]; omega), ← List.getD_eq_getElem?_getD, ih (by omega)]
    · rw [show m = n + 1 by omega]
/-- Word i of the schedule, however far it goes. -/
def sw (b : List UInt8) (i : Nat) : UInt32 := (schedAt b (i + 1)).getD i 0
theorem sw_eq (b : List UInt8) (i n : Nat) (h : i < n) : (schedAt b n).getD i 0 = sw b i := sched_stable b i (i + 1) n (by omega) (by omega)
theorem sw_next (b : List UInt8) (j : Nat) : sw b (j + 16) = nwW (sw b j) (sw b (j + 1)) (sw b (j + 9)) (sw b (j + 14)) := by
  rw [sw, sched_next, List.getD_eq_getElem?_getD, List.getElem?_append_right (by rw [schedAt_length]; omega), schedAt_length, Nat.sub_self]
  rw [sw_eq b j _ (by omega), sw_eq b (j + 1) _ (by omega), sw_eq b (j + 9) _ (by omega), sw_eq b (j + 14) _ (by omega)]
  rfl
theorem g_ok (b : List UInt8) (v : List UInt32) (hv : v.length = 8) : ∀ (n i : Nat), n + i = 64 →
    gRounds (shaK.drop i) (sw b i) (sw b (i + 1)) (sw b (i + 2)) (sw b (i + 3)) (sw b (i + 4)) (sw b (i + 5)) (sw b (i + 6)) (sw b (i + 7)) (sw b (i + 8)) (sw b (i + 9)) (sw b (i + 10)) (sw b (i + 11)) (sw b (i + 12)) (sw b (i + 13)) (sw b (i + 14)) (sw b (i + 15))
      ((roundsAt b v i).getD 0 0) ((roundsAt b v i).getD 1 0) ((roundsAt b v i).getD 2 0) ((roundsAt b v i).getD 3 0) ((roundsAt b v i).getD 4 0) ((roundsAt b v i).getD 5 0) ((roundsAt b v i).getD 6 0) ((roundsAt b v i).getD 7 0) = roundsAt b v 64
  | 0, i, h => by
    obtain rfl : i = 64 := by omega
    rw [show shaK.drop 64 = [] from rfl, gRounds]
    have := roundsAt_length b v hv 64
    match hr : roundsAt b v 64, this with
    | [a, b, c, d, e, f, g, h], _ => rfl
  | n + 1, i, h => by
    have hi : i < 64 := by omega
    have ih := g_ok b v hv n (i + 1) (by omega)
    rw [List.drop_eq_getElem_cons (show i < shaK.length from hi), gRounds, ← sw_next b i]
    have hk : shaK[i]'(show i < shaK.length from hi) = shaK.getD i 0 := by rw [List.getD_eq_getElem?_getD, List.getElem?_eq_getElem hi]; rfl
    rw [hk]
    have hs : roundsAt b v (i + 1) = shaRound (roundsAt b v i) (shaK.getD i 0) (sw b i) := by
      rw [roundsAt, sched, sw_eq b i 64 hi]
    rw [hs] at ih
    rw [show i + 1 + 1 = i + 2 from rfl, show i + 1 + 2 = i + 3 from rfl, show i + 1 + 3 = i + 4 from rfl, show i + 1 + 4 = i + 5 from rfl, show i + 1 + 5 = i + 6 from rfl, show i + 1 + 6 = i + 7 from rfl, show i + 1 + 7 = i + 8 from rfl, show i + 1 + 8 = i + 9 from rfl, show i + 1 + 9 = i + 10 from rfl, show i + 1 + 10 = i + 11 from rfl, show i + 1 + 11 = i + 12 from rfl, show i + 1 + 12 = i + 13 from rfl, show i + 1 + 13 = i + 14 from rfl, show i + 1 + 14 = i + 15 from rfl, show i + 1 + 15 = i + 16 from rfl] at ih
    exact ih

end Go.Proofs.YtcjlkjcadaaleaaDoor

/-
  SHA-256, HMAC and what is made of them over natural numbers, quick to evaluate in the kernel, and that they are those of the plain functions.
-/
namespace Go.Proofs.YtcjlkjcadaaleaaDoor

def bN (l : List UInt8) : List Nat := l.map UInt8.toNat
theorem bN_inj {a b : List UInt8} (h : bN a = bN b) : a = b := by
  unfold bN at h
  induction a generalizing b with
  | nil => cases b with
    | nil => rfl
    | cons y b => simp at h
  | cons x a ih => cases b with
    | nil => simp at h
    | cons y b =>
      simp only [List.map_cons, List.cons.injEq] at h
      rw [UInt8.toNat_inj.1 h.1, ih h.2]
def wordsN : List Nat → List Nat
  | a :: b :: c :: d :: r => Nat.add (Nat.mul (Nat.add (Nat.mul (Nat.add (Nat.mul a 256) b) 256) c) 256) d :: wordsN r
  | _ => []
def kN : List Nat := shaK.map UInt32.toNat
def fBlock (v w : List Nat) : List Nat :=
  match w, v with
  | [w0, w1, w2, w3, w4, w5, w6, w7, w8, w9, w10, w11, w12, w13, w14, w15], [a, b, c, d, e, f, g, h] =>
    List.zipWith addN (fRounds kN w0 w1 w2 w3 w4 w5 w6 w7 w8 w9 w10 w11 w12 w13 w14 w15 a b c d e f g h) [a, b, c, d, e, f, g, h]
  | _, _ => []
theorem be_step (n : UInt32) (b : UInt8) (h : n.toNat < 16777216) : ((n <<< 8) ||| b.toUInt32).toNat = n.toNat * 256 + b.toNat := by
  have hb := b.toNat_lt
  rw [UInt32.toNat_or, UInt32.toNat_shiftLeft, UInt8.toNat_toUInt32, show (8 : UInt32).toNat % 32 = 8 from rfl, Nat.shiftLeft_eq, Nat.mod_eq_of_lt (by omega), ← Nat.shiftLeft_eq, ← Nat.shiftLeft_add_eq_or_of_lt (by omega), Nat.shiftLeft_eq]
theorem be_toNat (a b c d : UInt8) : (beWord [a, b, c, d]).toNat = ((a.toNat * 256 + b.toNat) * 256 + c.toNat) * 256 + d.toNat := by
  have ha := a.toNat_lt
  have hb := b.toNat_lt
  have hc := c.toNat_lt
  unfold beWord
  simp only [List.foldl_cons, List.foldl_nil]
  have h0 : (0 : UInt32).toNat = 0 := rfl
  have h1 := be_step 0 a (by rw [h0]; omega)
  rw [h0, Nat.zero_mul, Nat.zero_add] at h1
  have h2 := be_step _ b (show ((0 : UInt32) <<< 8 ||| a.toUInt32).toNat < 16777216 by rw [h1]; omega)
  rw [h1] at h2
  have h3 := be_step _ c (show (((0 : UInt32) <<< 8 ||| a.toUInt32) <<< 8 ||| b.toUInt32).toNat < 16777216 by rw [h2]; omega)
  rw [h2] at h3
  have h4 := be_step _ d (show ((((0 : UInt32) <<< 8 ||| a.toUInt32) <<< 8 ||| b.toUInt32) <<< 8 ||| c.toUInt32).toNat < 16777216 by rw [h3]; omega)
  rw [h4, h3]
/-- Four bytes at a time. -/
theorem words_N : ∀ (n : Nat) (b : List UInt8), b.length = 4 * n → wordsN (bN b) = (List.range n).map fun i => (beWord ((b.drop (4 * i)).take 4)).toNat
  | 0, b, h => by
    obtain rfl : b = [] := List.length_eq_zero_iff.1 (by omega)
    rfl
  | n + 1, b, h => by
    match b, h with
    | w :: x :: y :: z :: r, h =>
      have ih := words_N n r (by simp at h; omega)
      rw [List.range_succ_eq_map, List.map_cons, List.map_map]
      have e : wordsN (bN (w :: x :: y :: z :: r)) = (((w.toNat * 256 + x.toNat) * 256 + y.toNat) * 256 + z.toNat) :: wordsN (bN r) := rfl
      rw [e, ih, ← be_toNat]
      congr 1
theorem range16 (f : Nat → Nat) : (List.range 16).map f = [f 0, f 1, f 2, f 3, f 4, f 5, f 6, f 7, f 8, f 9, f 10, f 11, f 12, f 13, f 14, f 15] := rfl
theorem fBlock_eq (w0 w1 w2 w3 w4 w5 w6 w7 w8 w9 w10 w11 w12 w13 w14 w15 a b c d e f g h : Nat) : fBlock [a, b, c, d, e, f, g, h] [w0, w1, w2, w3, w4, w5, w6, w7, w8, w9, w10, w11, w12, w13, w14, w15] =
    List.zipWith addN (fRounds kN w0 w1 w2 w3 w4 w5 w6 w7 w8 w9 w10 w11 w12 w13 w14 w15 a b c d e f g h) [a, b, c, d, e, f, g, h] := rfl
theorem zip_N : ∀ (r v : List UInt32), List.zipWith addN (r.map UInt32.toNat) (v.map UInt32.toNat) = (List.zipWith (· + ·) r v).map UInt32.toNat
  | [], v => by simp
  | x :: r, [] => by simp
  | x :: r, y :: v => by simp only [List.map_cons, List.zipWith_cons_cons]; rw [zip_N r v, add_N]
theorem g_all (b : List UInt8) (a b' c d e f g h : UInt32) : gRounds shaK (sw b 0) (sw b 1) (sw b 2) (sw b 3) (sw b 4) (sw b 5) (sw b 6) (sw b 7) (sw b 8) (sw b 9) (sw b 10) (sw b 11) (sw b 12) (sw b 13) (sw b 14) (sw b 15) a b' c d e f g h = shaRounds b [a, b', c, d, e, f, g, h] := by
  have := g_ok b [a, b', c, d, e, f, g, h] rfl 64 0 rfl
  rw [List.drop_zero, roundsAt] at this
  exact this
set_option maxRecDepth 100000 in
theorem block_N (v : List UInt32) (b : List UInt8) (hv : v.length = 8) (hb : b.length = 64) : fBlock (v.map UInt32.toNat) (wordsN (bN b)) = (shaBlock v b).map UInt32.toNat := by
  rw [words_N 16 b hb]
  have hw : ∀ i, i < 16 → (beWord ((b.drop (4 * i)).take 4)) = sw b i := fun i hi => by
    rw [sw, schedAt, List.getD_eq_getElem?_getD, List.getElem?_append_right (by rw [schedAt_length]; omega), schedAt_length, Nat.sub_self, if_pos hi]
    first | done | rfl
  have hl : ((List.range 16).map fun i => (beWord ((b.drop (4 * i)).take 4)).toNat) = ((List.range 16).map fun i => (sw b i).toNat) := List.map_congr_left fun i hi => by rw [hw i (List.mem_range.1 hi)]
  rw [hl, range16]
  match v, hv with
  | [a, b', c, d, e, f, g, h], hv =>
    rw [List.map_cons, List.map_cons, List.map_cons, List.map_cons, List.map_cons, List.map_cons, List.map_cons, List.map_cons, List.map_nil, fBlock_eq, kN, rounds_N, g_all]
    exact zip_N _ [a, b', c, d, e, f, g, h]

/-- A list's numbers, evaluated first. -/
def forceL {α : Type} : List Nat → (List Nat → α) → α
  | [], k => k []
  | x :: r, k => forceN x fun y => forceL r fun s => k (y :: s)
theorem forceL_eq {α : Type} : ∀ (l : List Nat) (k : List Nat → α), forceL l k = k l
  | [], k => rfl
  | x :: r, k => by rw [forceL, forceN_eq, forceL_eq r]
def fBlocks : Nat → List Nat → List Nat → List Nat
  | 0, v, _ => v
  | n + 1, v, m => forceL (fBlock v (wordsN (m.take 64))) fun s => fBlocks n s (m.drop 64)
theorem blocks_N : ∀ (n : Nat) (v : List UInt32) (m : List UInt8), v.length = 8 → m.length = 64 * n → fBlocks n (v.map UInt32.toNat) (bN m) = (shaBlocks n v m).map UInt32.toNat
  | 0, v, m, _, _ => rfl
  | n + 1, v, m, hv, hm => by
    have e1 : (bN m).take 64 = bN (m.take 64) := (List.map_take ..).symm
    have e2 : (bN m).drop 64 = bN (m.drop 64) := (List.map_drop ..).symm
    rw [fBlocks, forceL_eq, e1, e2, block_N v _ hv (by rw [List.length_take]; omega)]
    have hl : (shaBlock v (m.take 64)).length = 8 := by
      have := shaFold_length (m.take 64) [0] v hv
      unfold shaFold at this
      simp only [List.foldl_cons, List.foldl_nil, Nat.mul_zero, List.drop_zero] at this
      rwa [List.take_take] at this
    exact blocks_N n _ _ hl (by rw [List.length_drop]; omega)
def beNs (n : Nat) : Nat → List Nat
  | 0 => []
  | k + 1 => Nat.mod (Nat.div n (256 ^ k)) 256 :: beNs n k
theorem be_N (n : Nat) : ∀ k, bN (beBytes n k) = beNs n k
  | 0 => rfl
  | k + 1 => by
    have := be_N n k
    unfold bN at this ⊢
    rw [beBytes, beNs, List.map_cons, this]
    congr 1
def padN' (l : List Nat) : List Nat := l ++ [128] ++ List.replicate ((119 - l.length % 64) % 64) 0 ++ beNs (8 * l.length) 8
theorem bN_length (l : List UInt8) : (bN l).length = l.length := List.length_map ..
theorem bN_append (a b : List UInt8) : bN (a ++ b) = bN a ++ bN b := List.map_append ..
theorem pad_N (l : List UInt8) : bN (shaPad l) = padN' (bN l) := by
  unfold shaPad padN'
  rw [bN_append, bN_append, bN_append, be_N, bN_length]
  congr 2
  unfold bN
  rw [List.map_replicate]
  rfl
def h0N : List Nat := shaH0.map UInt32.toNat
def outN (v : List Nat) : List Nat := v.flatMap fun w => beNs w 4
def shaN (l : List Nat) : List Nat := outN (fBlocks ((padN' l).length / 64) h0N (padN' l))
theorem out_N (v : List UInt32) : bN (v.flatMap fun w => beBytes w.toNat 4) = outN (v.map UInt32.toNat) := by
  unfold outN
  induction v with
  | nil => rfl
  | cons x v ih => rw [List.flatMap_cons, bN_append, ih, List.map_cons, List.flatMap_cons, be_N]
theorem pad_len (l : List UInt8) : ∃ m, (shaPad l).length = 64 * m := by
  refine ⟨(shaPad l).length / 64, ?_⟩
  unfold shaPad
  simp [beBytes_length]
  omega
theorem sha_N (l : List UInt8) : bN (sha l) = shaN (bN l) := by
  obtain ⟨m, hm⟩ := pad_len l
  unfold sha shaN
  rw [out_N, ← pad_N, bN_length, hm, Nat.mul_div_cancel_left _ (by omega), h0N, blocks_N m shaH0 _ rfl hm]
def padXN (k : List Nat) (x : Nat) : List Nat := (List.range 64).map fun i => Nat.xor (k.getD i 0) x
def hmacN (key m : List Nat) : List Nat := forceL (if key.length > 64 then shaN key else key) fun k => forceL (shaN (padXN k 54 ++ m)) fun h => shaN (padXN k 92 ++ h)
theorem padX_N (k : List UInt8) (x : UInt8) : bN (padOf k x) = padXN (bN k) x.toNat := by
  unfold padOf padN padXN
  unfold bN
  rw [List.map_map]
  apply List.map_congr_left
  intro i _
  show ((k.getD i 0) ^^^ x).toNat = _
  rw [UInt8.toNat_xor]
  have : (k.map UInt8.toNat).getD i 0 = (k.getD i 0).toNat := by
    rw [List.getD_eq_getElem?_getD, List.getD_eq_getElem?_getD, List.getElem?_map]
    cases k[i]? <;> rfl
  rw [this]
  rfl
theorem hmac_N (key m : List UInt8) : bN (hmac key m) = hmacN (bN key) (bN m) := by
  rw [hmac_eq, sha_N, bN_append, padX_N, sha_N, bN_append, padX_N]
  have hk : bN (if key.length > 64 then sha key else key) = if (bN key).length > 64 then shaN (bN key) else bN key := by
    rw [bN_length]
    split
    · exact sha_N key
    · rfl
  rw [hk]
  unfold hmacN
  rw [forceL_eq, forceL_eq]
  rfl
def macN (key m : List Nat) : List Nat := (hmacN key m).take 16
theorem mac_N (key m : List UInt8) : bN (mac key m) = macN (bN key) (bN m) := by
  unfold mac macN
  rw [← hmac_N]
  exact List.map_take ..
def encsN (ps : List (List Nat)) : List Nat := ps.flatMap fun p => bN (wInt p.length) ++ p
theorem encs_N (ps : List (List UInt8)) : bN (encs ps) = encsN (ps.map bN) := by
  unfold encs encsN
  induction ps with
  | nil => rfl
  | cons p ps ih => rw [List.flatMap_cons, bN_append, ih, List.map_cons, List.flatMap_cons, wBytes, bN_append, bN_length]
def digestN (tag : Int) (ps : List (List Nat)) : List Nat := forceL ((shaN ((tagByte tag).toNat :: encsN ps)).take 16) fun d => d
theorem digest_N (tag : Int) (ps : List (List UInt8)) : bN (digestS tag ps) = digestN tag (ps.map bN) := by
  unfold digestS digestN
  rw [forceL_eq, ← encs_N]
  have : (tagByte tag).toNat :: bN (encs ps) = bN ([tagByte tag] ++ encs ps) := rfl
  rw [this, ← sha_N]
  exact List.map_take ..
def deriveN (key label : List Nat) (ps : List (List Nat)) : List Nat := forceL (macN key (bN (wInt label.length) ++ label ++ encsN ps)) fun d => d
theorem derive_N (key label : List UInt8) (ps : List (List UInt8)) : bN (deriveS key label ps) = deriveN (bN key) (bN label) (ps.map bN) := by
  unfold deriveS deriveN
  rw [forceL_eq, mac_N, bN_append, encs_N, wBytes, bN_append, bN_length]

end Go.Proofs.YtcjlkjcadaaleaaDoor

/-
  Keys, streams, tags and roots over numbers: what boxes and trees ask, for evaluation.
-/
namespace Go.Proofs.YtcjlkjcadaaleaaDoor

def keyN (key : List Nat) (nonce : Int) : List Nat := deriveN key [101, 110, 99, 114, 121, 112, 116] [bN (wInt nonce)]
theorem key_N (key : List UInt8) (nonce : Int) : bN (keyS key nonce) = keyN (bN key) nonce := by
  unfold keyS keyN
  rw [derive_N]
  rfl
def streamN (key : List Nat) (n : Nat) : List Nat := ((List.range ((n + 31) / 32)).flatMap fun j : Nat => hmacN key (bN (wInt (j : Int)))).take n
theorem flatN (f : Nat → List UInt8) (g : Nat → List Nat) (h : ∀ k, bN (f k) = g k) : ∀ l : List Nat, bN (l.flatMap f) = l.flatMap g
  | [] => rfl
  | k :: l => by rw [List.flatMap_cons, List.flatMap_cons, bN_append, flatN f g h l, h]
theorem stream_N (key : List UInt8) (n : Nat) : bN (streamS key (n : Int)) = streamN (bN key) n := by
  unfold streamS streamN streamCat
  rw [Int.toNat_natCast]
  have : ∀ (l : List UInt8) (k : Nat), bN (l.take k) = (bN l).take k := fun l k => List.map_take ..
  rw [this, flatN _ (fun j => hmacN (bN key) (bN (wInt (j : Int)))) (fun k => hmac_N _ _)]
theorem xor_bN : ∀ (a b : List UInt8), bN (List.zipWith (· ^^^ ·) a b) = List.zipWith Nat.xor (bN a) (bN b)
  | [], _ => rfl
  | _ :: _, [] => rfl
  | x :: a, y :: b => by
    have := xor_bN a b
    unfold bN at this ⊢
    rw [List.zipWith_cons_cons, List.map_cons, this, List.map_cons, List.map_cons, List.zipWith_cons_cons, UInt8.toNat_xor]
    rfl
def applyN (key : List Nat) (nonce : Int) (s : List Nat) : List Nat := forceL (List.zipWith Nat.xor s (streamN (keyN key nonce) s.length)) fun d => d
theorem apply_N (key : List UInt8) (nonce : Int) (s : List UInt8) : bN (applyS key nonce s) = applyN (bN key) nonce (bN s) := by
  unfold applyS applyN
  rw [forceL_eq, xor_bN, stream_N, key_N, bN_length]
def tagN (key : List Nat) (nonce : Int) (c : List Nat) : List Nat := forceL (macN (deriveN key [97, 117, 116, 104, 101, 110, 116, 105, 99, 97, 116, 101] []) (bN (wInt nonce) ++ (bN (wInt c.length) ++ c))) fun d => d
theorem tag_N (key : List UInt8) (nonce : Int) (c : List UInt8) : bN (tagS key nonce c) = tagN (bN key) nonce (bN c) := by
  unfold tagS tagN
  rw [forceL_eq, mac_N, derive_N, bN_append, wBytes, bN_append, bN_length]
  rfl
def rootFN : Nat → List (List Nat) → List Nat
  | _, [] => digestN 1 []
  | _, [d] => digestN 1 [d]
  | 0, _ => []
  | f + 1, l => digestN 2 [rootFN f (l.take (splitS l.length)), rootFN f (l.drop (splitS l.length))]
theorem rootF_N : ∀ (f : Nat) (l : List (List UInt8)), bN (rootF f l) = rootFN f (l.map bN)
  | 0, [] => digest_N _ _
  | _ + 1, [] => digest_N _ _
  | 0, [d] => digest_N _ _
  | _ + 1, [d] => digest_N _ _
  | 0, _ :: _ :: _ => rfl
  | f + 1, a :: b :: l => by
    rw [rootF, List.map_cons, List.map_cons, rootFN]
    unfold nodeS
    rw [digest_N, List.map_cons, List.map_cons, List.map_nil, rootF_N f, rootF_N f, List.map_take, List.map_drop, List.map_cons, List.map_cons]
    · simp
    all_goals simp
def rootN (l : List (List Nat)) : List Nat := rootFN l.length l
theorem root_N (l : List (List UInt8)) : bN (rootS l) = rootN (l.map bN) := by
  unfold rootS rootN
  rw [rootF_N, List.length_map]

end Go.Proofs.YtcjlkjcadaaleaaDoor

/-
  Package page by the abstract machine: specifications of New and Store; what keeps a memory good (plain).
-/
namespace Go.Proofs.YtcjlkjcadaaleaaDoor.Pv
open Go.RowKit

def spNew : Spec := funSpec true fun xs => match xs with
  | [.w (.agg [.bs 16 k]), .w (.one (.sl 1 n f))] => some (IsStrRow n f ∧ ∀ c ∈ rowStr n f, c.size ≤ 5000, newPV k (rowStr n f))
  | _ => none
theorem vals_sl2 {C : Ctx} {a : PV} {n len : Nat} {f f' : Nat → List PC} (h : ∀ i, i < len → f i = f' i) : ∀ vs, Vals C [a, .w (.one (.sl n len f))] vs → Vals C [a, .w (.one (.sl n len f'))] vs
  | [], hv => hv
  | [_], ⟨_, hv⟩ => hv.elim
  | _ :: _ :: _ :: _, ⟨_, _, hv⟩ => hv.elim
  | [_, _], ⟨h1, h2, _⟩ => ⟨h1, by
    cases h2 with
    | w h2 => cases h2 with
      | one h2 => exact .w (.one (h2.sl_ext h)), trivial⟩
theorem pgNew_ok : SpecOk Tryd.prog ShaMem 36 spNew := by
  refine funSpec_ok (call_enters Tryd.func36 (by kernel_rfl) rfl) (fun xs p r hg hp => ?_)
  split at hg
  · rename_i k n f
    cases hg
    intro w ok0 vs hI hv
    have h1 := pgNew_fun k (rowStr n f) (vals_dig hv) hp.2
    rw [rowStr_length] at h1
    exact h1 w ok0 vs hI (vals_sl2 (strF_row hp.1) vs hv)
  · cases hg
def spStore : Spec := funSpec true fun xs => match xs with
  | [.w (.agg [.bs 16 k]), .w (.agg [.bs 16 r]), v, .w (.one (.lit (.int .i64 i))), .w (.one (.lit (.string c)))] => (match asMem v with
    | some (p, m) => some (p ∧ MemOk m ∧ i64P i ∧ c.size ≤ 5000, storePV k r m i c)
    | none => none)
  | _ => none
theorem pgStore_ok : SpecOk Tryd.prog ShaMem 65 spStore := by
  refine funSpec_ok (call_enters Tryd.func65 (by kernel_rfl) rfl) (fun xs p r hg hp => ?_)
  split at hg
  · rename_i k q v i c
    cases hq : asMem v with
    | none => rw [hq] at hg; cases hg
    | some x =>
      obtain ⟨p0, m⟩ := x
      rw [hq] at hg
      cases hg
      intro w ok0 vs hI hv
      have hd := vals_dig2 hv
      exact pgStore_fun _ _ m _ _ hd.1 hd.2 hp.2.1 hp.2.2.1 hp.2.2.2 w ok0 vs hI (vals_mem3 hq hp.1 vs hv)
  · cases hg
def pgL5 : List (Nat × Spec) := (36, spNew) :: (65, spStore) :: pgL4
theorem pg5_ok : ∀ p ∈ pgL5, SpecOk Tryd.prog ShaMem p.1 p.2 := by
  intro p hp
  unfold pgL5 at hp
  rcases List.mem_cons.1 hp with rfl | hp
  · exact pgNew_ok
  rcases List.mem_cons.1 hp with rfl | hp
  · exact pgStore_ok
  · exact pg4_ok p hp
theorem pg5M : Mach Tryd.prog ShaMem (find pgL5) := ⟨specs_of pg5_ok, mixed_⟩

/-! ### What a memory holds (plain) -/
structure Good (key root : List UInt8) (m : MemS) (cs : List ByteArray) : Prop where
  pl : m.pages.length = cs.length
  cl : m.counts.length = cs.length
  few : cs.length ≤ 16
  root : root = memRootS m
  tag : m.tag = memTagS key (memRootS m)
  box : ∀ k, k < cs.length → ∃ n, m.pages.getD k default = sealB (pageKeyS key (k : Int)) n (cs.getD k { data := #[] })
theorem Good.formed {key root : List UInt8} {m : MemS} {cs : List ByteArray} (h : Good key root m cs) : formedS m = true := by
  unfold formedS
  rw [h.pl, h.cl]
  simp [h.few]
theorem Good.tagOk {key root : List UInt8} {m : MemS} {cs : List ByteArray} (h : Good key root m cs) : tagOkS key m = true := by
  unfold tagOkS
  rw [h.formed, cond_true, beq_iff_eq]
  exact h.tag
theorem Good.ver {key root : List UInt8} {m : MemS} {cs : List ByteArray} (h : Good key root m cs) : verE key root m = 0 := by
  unfold verE
  rw [h.tagOk, cond_true, h.root]
  simp
theorem opened_seal (k : List UInt8) (n : Int) (c : ByteArray) : opened k (sealB k n c).nonce (sealB k n c).cipher (sealB k n c).tag = true := by
  unfold opened sealB
  dsimp only
  rw [strOf_list]
  simp
theorem openS_back (k : List UInt8) (n : Int) (c : ByteArray) : strOf (applyS k (sealB k n c).nonce (sealB k n c).cipher.data.toList) = c := by
  unfold sealB
  dsimp only
  rw [strOf_list, apply_back, strOf_toList]
theorem Good.load {key root : List UInt8} {m : MemS} {cs : List ByteArray} (h : Good key root m cs) {k : Nat} (hk : k < cs.length) : loadE key root m (k : Int) = 0 ∧ loadV key root m (k : Int) = cs.getD k { data := #[] } := by
  have hin : inS m (k : Int) = true := by
    unfold inS
    rw [h.pl]
    simp [hk]
  obtain ⟨n, hb⟩ := h.box k hk
  have hbx : pgBox m (k : Int) = sealB (pageKeyS key (k : Int)) n (cs.getD k { data := #[] }) := by
    unfold pgBox
    rw [Int.toNat_natCast, hb]
  have hop : opS key m (k : Int) = true := by
    unfold opS
    rw [hbx]
    exact opened_seal _ _ _
  refine ⟨?_, ?_⟩
  · unfold loadE
    rw [h.ver, hin, hop]; rfl
  · unfold loadV
    rw [h.ver, hin, hop, hbx, openS_back]; rfl
theorem good_new (key : List UInt8) (l : List ByteArray) (hl : l.length ≤ 16) : Good key (newR key l) (newM key l) l := by
  have e1 : newM key l = { newU key l with tag := memTagS key (memRootS (newU key l)) } := by unfold newM; simp [hl]
  have e2 : newR key l = memRootS (newU key l) := by unfold newR; simp [hl]
  rw [e1, e2]
  refine ⟨by simp [newU, newPages], by simp [newU], hl, rfl, rfl, fun k hk => ⟨0, ?_⟩⟩
  simp only [newU, newPages]
  rw [getD_map_range _ k _ hk]
theorem good_store {key root : List UInt8} {m : MemS} {cs : List ByteArray} (h : Good key root m cs) {k : Nat} (hk : k < cs.length) (c : ByteArray) : loadE key root m (k : Int) = 0 ∧ Good key (storeR key root m (k : Int) c) (pgSt key root m (k : Int) c) (cs.set k c) ∧ pgSt key root m (k : Int) c = { pgPut key m (k : Int) c with tag := memTagS key (memRootS (pgPut key m (k : Int) c)) } := by
  have h0 := (h.load hk).1
  have e1 : pgSt key root m (k : Int) c = { pgPut key m (k : Int) c with tag := memTagS key (memRootS (pgPut key m (k : Int) c)) } := by unfold pgSt; simp [h0]
  have e2 : storeR key root m (k : Int) c = memRootS (pgPut key m (k : Int) c) := by unfold storeR; simp [h0]
  refine ⟨h0, ?_, e1⟩
  rw [e1, e2]
  refine ⟨by simp [pgPut, h.pl], by simp [pgPut, h.cl], by simpa using h.few, rfl, rfl, fun j hj => ?_⟩
  rw [List.length_set] at hj
  simp only [pgPut, Int.toNat_natCast]
  by_cases hjk : j = k
  · subst hjk
    refine ⟨wrapI (m.total + 1), ?_⟩
    rw [List.getD_eq_getElem?_getD, List.getElem?_set_self (by rw [h.pl]; exact hk), List.getD_eq_getElem?_getD, List.getElem?_set_self hk]
    rfl
  · obtain ⟨n, hb⟩ := h.box j hj
    refine ⟨n, ?_⟩
    rw [List.getD_eq_getElem?_getD, List.getElem?_set_ne (Ne.symm hjk), ← List.getD_eq_getElem?_getD, hb, List.getD_eq_getElem?_getD, List.getD_eq_getElem?_getD, List.getElem?_set_ne (Ne.symm hjk)]
theorem good_memOk {key root : List UInt8} {m : MemS} (hm : MemOk m) {k : Nat} (c : ByteArray) (hc : c.size ≤ 5000) (h : loadE key root m (k : Int) = 0) : MemOk (pgSt key root m (k : Int) c) := by
  have e1 : pgSt key root m (k : Int) c = { pgPut key m (k : Int) c with tag := memTagS key (memRootS (pgPut key m (k : Int) c)) } := by unfold pgSt; simp [h]
  rw [e1]
  exact pgPut_ok hm key _ c _ hc (mac_length _ _)
theorem new_memOk (key : List UInt8) (l : List ByteArray) (hl : l.length ≤ 16) (hc : ∀ c ∈ l, c.size ≤ 5000) : MemOk (newM key l) := by
  have e1 : newM key l = { newU key l with tag := memTagS key (memRootS (newU key l)) } := by unfold newM; simp [hl]
  rw [e1]
  exact newU_ok key l _ hl hc (mac_length _ _)

/-! ### Over numbers -/
structure BoxN where
  nonce : Int
  cipher : List Nat
  tag : List Nat
  deriving Inhabited
def boxN (b : BoxS) : BoxN := ⟨b.nonce, bN b.cipher.data.toList, bN b.tag⟩
def pageKeyN (key : List Nat) (i : Int) : List Nat := deriveN key [112, 97, 103, 101] [bN (wInt i)]
def sealN (k : List Nat) (n : Int) (c : List Nat) : BoxN := ⟨n, applyN k n c, tagN k n (applyN k n c)⟩
def leafN (i : Nat) (cnt : Int) (b : BoxN) : List Nat := digestN 14 [bN (wInt i), bN (wInt cnt), bN (wInt b.nonce), bN (wInt b.cipher.length) ++ b.cipher, b.tag]
def memTagN (key root : List Nat) : List Nat := macN (deriveN key [109, 101, 109, 111, 114, 121] []) root
theorem pageKey_N (key : List UInt8) (i : Int) : bN (pageKeyS key i) = pageKeyN (bN key) i := by
  unfold pageKeyS pageKeyN
  rw [derive_N]
  rfl
theorem seal_N (k : List UInt8) (n : Int) (c : ByteArray) : boxN (sealB k n c) = sealN (bN k) n (bN c.data.toList) := by
  unfold boxN sealB sealN
  dsimp only
  rw [strOf_list, tag_N, apply_N]
theorem leaf_N (m : MemS) (i : Nat) : bN (leafS m i) = leafN i (m.counts.getD i 0) (boxN (m.pages.getD i default)) := by
  unfold leafS leafN boxN
  rw [digest_N]
  simp only [List.map_cons, List.map_nil, wBytes, bN_append, bN_length]
theorem memTag_N (key root : List UInt8) : bN (memTagS key root) = memTagN (bN key) (bN root) := by
  unfold memTagS memTagN
  rw [mac_N, derive_N]
  rfl
def memRootN (total : Int) (leaves : List (List Nat)) : List Nat := digestN 15 [bN (wInt total), rootN leaves]
theorem memRoot_N (m : MemS) (h : formedS m = true) : bN (memRootS m) = memRootN m.total ((List.range m.pages.length).map fun i => leafN i (m.counts.getD i 0) (boxN (m.pages.getD i default))) := by
  unfold memRootS memRootN
  rw [if_pos h, digest_N]
  simp only [List.map_cons, List.map_nil]
  rw [root_N, List.map_map]
  have : (bN ∘ leafS m) = fun i => leafN i (m.counts.getD i 0) (boxN (m.pages.getD i default)) := by
    funext i
    exact leaf_N m i
  rw [this]

end Go.Proofs.YtcjlkjcadaaleaaDoor.Pv

/-
  What the sanity of the laws of pages asks, by algebra and by evaluation.
-/
namespace Go.Proofs.YtcjlkjcadaaleaaDoor.Pv
open Go.RowKit

def sKey : List UInt8 := [3, 0, 0, 0, 0, 0, 0, 0, 0, 0, 0, 0, 0, 0, 0, 0]
def sOne : ByteArray := { data := #[111, 110, 101] }
def sTwo : ByteArray := { data := #[116, 119, 111] }
def sThree : ByteArray := { data := #[116, 104, 114, 101, 101] }
def sM : MemS := newM sKey [sOne, sTwo]
def sR : List UInt8 := newR sKey [sOne, sTwo]
def sN : MemS := pgSt sKey sR sM 1 sThree
def sS : List UInt8 := storeR sKey sR sM 1 sThree
def setTotal (m : MemS) (t : Int) : MemS := { m with total := t }
theorem setTotal_tag (m : MemS) (t : Int) : (setTotal m t).tag = m.tag := rfl
theorem setTotal_pages (m : MemS) (t : Int) : (setTotal m t).pages = m.pages := rfl
theorem setTotal_counts (m : MemS) (t : Int) : (setTotal m t).counts = m.counts := rfl
theorem setTotal_total (m : MemS) (t : Int) : (setTotal m t).total = t := rfl
def sBad : MemS := setTotal sN 5
def sB0 : BoxN := sealN (pageKeyN (bN sKey) 0) 0 [111, 110, 101]
def sB1 : BoxN := sealN (pageKeyN (bN sKey) 1) 0 [116, 119, 111]
def sB2 : BoxN := sealN (pageKeyN (bN sKey) 1) 1 [116, 104, 114, 101, 101]
def sRN : List Nat := memRootN 0 [leafN 0 0 sB0, leafN 1 0 sB1]
def sSN : List Nat := memRootN 1 [leafN 0 0 sB0, leafN 1 1 sB2]
def sXN : List Nat := memRootN 5 [leafN 0 0 sB0, leafN 1 1 sB2]
set_option maxRecDepth 1000000 in
theorem sFacts : (sRN != sSN && memTagN (bN sKey) sSN != memTagN (bN sKey) sXN) = true := by decide +kernel
theorem root2_N (m : MemS) (b0 b1 : BoxS) (c0 c1 : Int) (h1 : m.pages = [b0, b1]) (h2 : m.counts = [c0, c1]) : bN (memRootS m) = memRootN m.total [leafN 0 c0 (boxN b0), leafN 1 c1 (boxN b1)] := by
  rw [memRoot_N m (by unfold formedS; rw [h1, h2]; rfl), h1, h2]
  rfl
theorem sM_eq : sM = { newU sKey [sOne, sTwo] with tag := memTagS sKey (memRootS (newU sKey [sOne, sTwo])) } := by unfold sM newM; rfl
theorem sR_eq : sR = memRootS (newU sKey [sOne, sTwo]) := by unfold sR newR; simp
theorem sGoodM : Good sKey sR sM [sOne, sTwo] := good_new sKey _ (by simp)
theorem sStore : loadE sKey sR sM ((1 : Nat) : Int) = 0 ∧ Good sKey (storeR sKey sR sM ((1 : Nat) : Int) sThree) (pgSt sKey sR sM ((1 : Nat) : Int) sThree) ([sOne, sTwo].set 1 sThree) ∧ pgSt sKey sR sM ((1 : Nat) : Int) sThree = { pgPut sKey sM ((1 : Nat) : Int) sThree with tag := memTagS sKey (memRootS (pgPut sKey sM ((1 : Nat) : Int) sThree)) } := good_store sGoodM (k := 1) (by simp) sThree
theorem sN_eq : sN = { pgPut sKey sM 1 sThree with tag := memTagS sKey (memRootS (pgPut sKey sM 1 sThree)) } := sStore.2.2
theorem sGoodN : Good sKey sS sN [sOne, sThree] := sStore.2.1
theorem sRoot_R : bN sR = sRN := by
  rw [sR_eq, root2_N _ (sealB (pageKeyS sKey 0) 0 sOne) (sealB (pageKeyS sKey 1) 0 sTwo) 0 0 rfl rfl, seal_N, seal_N, pageKey_N, pageKey_N]
  rfl
theorem sW1 : wrapI (sM.total + 1) = 1 := by rw [sM_eq]; rfl
theorem sPages : (pgPut sKey sM 1 sThree).pages = [sealB (pageKeyS sKey 0) 0 sOne, sealB (pageKeyS sKey 1) 1 sThree] := by
  unfold pgPut
  dsimp only
  rw [sW1, sM_eq]
  rfl
theorem sCounts : (pgPut sKey sM 1 sThree).counts = [0, 1] := by
  unfold pgPut
  dsimp only
  rw [sM_eq]
  rfl
theorem sTotal : (pgPut sKey sM 1 sThree).total = 1 := sW1
theorem sRoot_S : bN sS = sSN := by
  rw [sGoodN.root, root2_N sN _ _ 0 1 (by rw [sN_eq]; exact sPages) (by rw [sN_eq]; exact sCounts), seal_N, seal_N, pageKey_N, pageKey_N, show sN.total = 1 by rw [sN_eq]; exact sTotal]
  rfl
theorem sRoot_X : bN (memRootS sBad) = sXN := by
  rw [root2_N sBad _ _ 0 1 (by unfold sBad; rw [setTotal_pages, sN_eq]; exact sPages) (by unfold sBad; rw [setTotal_counts, sN_eq]; exact sCounts), seal_N, seal_N, pageKey_N, pageKey_N]
  unfold sBad
  rw [setTotal_total]
  rfl
theorem sRS : (sR != sS) = true := by
  have h := sFacts
  rw [Bool.and_eq_true] at h
  rw [bne_iff_ne]
  intro e
  rw [← sRoot_R, ← sRoot_S, e] at h
  simp at h
theorem sLoad1 : loadE sKey sS sN 1 = 0 ∧ loadV sKey sS sN 1 = sThree := sGoodN.load (k := 1) (by simp)
theorem sLoad0 : loadE sKey sS sN 0 = 0 ∧ loadV sKey sS sN 0 = sOne := sGoodN.load (k := 0) (by simp)
theorem sStale : loadE sKey sS sM 1 = 14 := by
  have h : verE sKey sS sM = 14 := by
    unfold verE
    rw [sGoodM.tagOk, cond_true, ← sGoodM.root]
    have := sRS
    rw [bne_iff_ne] at this
    have h2 : (sR == sS) = false := by rw [beq_eq_false_iff_ne]; exact this
    rw [h2]; rfl
  unfold loadE
  rw [h]; rfl
theorem sCorrupt : loadE sKey sS sBad 0 = 8 := by
  have h0 : tagOkS sKey sBad = false := by
    have h1 : sBad.tag = memTagS sKey sS := by
      unfold sBad
      rw [setTotal_tag]
      rw [sGoodN.tag, ← sGoodN.root]
    unfold tagOkS
    rw [h1]
    have : (memTagS sKey sS == memTagS sKey (memRootS sBad)) = false := by
      rw [beq_eq_false_iff_ne]
      intro e
      have h2 := congrArg bN e
      rw [memTag_N, memTag_N, sRoot_S, sRoot_X] at h2
      have h := sFacts
      rw [Bool.and_eq_true, h2] at h
      simp at h
    rw [this]
    cases formedS sBad <;> simp
  have h : verE sKey sS sBad = 8 := by
    unfold verE
    rw [h0]; rfl
  unfold loadE
  rw [h]; rfl
theorem sNc : sN.counts = [0, 1] := by rw [sN_eq]; exact sCounts
theorem sNt : sN.total = 1 := by rw [sN_eq]; exact sTotal
theorem sMemM : MemOk sM := new_memOk sKey _ (by simp) (by intro c hc; simp only [List.mem_cons, List.not_mem_nil, or_false] at hc; rcases hc with rfl | rfl <;> decide)
theorem sMemN : MemOk sN := good_memOk sMemM (k := 1) sThree (by decide) sStore.1
theorem memOk_total {m : MemS} (h : MemOk m) (t : Int) (ht : i64P t) : MemOk (setTotal m t) := ⟨h.box, h.cnt, ht, h.tagl, h.len⟩
theorem sMemB : MemOk sBad := by
  unfold sBad
  exact memOk_total sMemN 5 ⟨by decide, by decide⟩
theorem sS_len : sS.length = 16 := by rw [sGoodN.root]; exact memRootS_length _

end Go.Proofs.YtcjlkjcadaaleaaDoor.Pv
