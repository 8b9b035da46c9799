/-
  Several texts in one file: each has its own heading below.
-/
import Derived.Test.YtgndblhpfjkfhaaDoorQaO
import Derived.Test.YtgndblhpfjkfhaaDoorCards
import Derived.Test.YtgndblhpfjkfhaaDoorTie
import Derived.Test.YtgndblhpfjkfhaaDoorQaG
import Derived.WalkKit
import Derived.ProofKit
import Derived.OpenShut
import Derived.ShutString
import Derived.ChangeOld
import Derived.Lib.SmallJoins
import Derived.Deep.Slices
import Derived.Deep.DeepHandedRow
import Derived.Lib.LaidTab
import Derived.Stop.LaidErr
import Derived.Test.YtgndblhpfjkfhaaDoorQaH
import Derived.Test.YtgndblhpfjkfhaaDoorQaL

/-
  The sanity of the laws of sealing: facts by evaluation, the walk.
-/
namespace Go.Proofs.YtgndblhpfjkfhaaDoor.Pv
open Go.RowKit

def asDigs : PV → Option (Prop × List (List UInt8))
  | .w (.one (.sl n len f)) => (match Nat.beq n 16 with
    | true => some (IsDRow len f, rowD len f)
    | false => none)
  | .w (.one (.lit (.slice none 0 0))) => some (True, [])
  | _ => none
theorem isDig_ok {l : List PC} (h : isDig l = true) : l = [.bs 16 (digAt l)] := by
  unfold isDig at h
  split at h
  · rw [beqT h]; rfl
  · cases h
theorem digF_row {n : Nat} {f : Nat → List PC} (h : IsDRow n f) : ∀ i, i < n → f i = digF (rowD n f) i := fun i hi => by
  unfold digF rowD
  rw [getD_map_range n i _ hi]
  exact isDig_ok (h i hi)
theorem asDigs_ok {C : Ctx} {v : PV} {p : Prop} {l : List (List UInt8)} {x : Value} (h : asDigs v = some (p, l)) (hp : p) (hv : RV C v x) : RV C (pv1 (.sl 16 l.length (digF l))) x := by
  unfold asDigs at h
  split at h
  · rename_i n len f
    cases hb : Nat.beq n 16 <;> rw [hb] at h <;> cases h
    obtain rfl := beqT hb
    refine .w (.one ?_)
    rw [rowD_length]
    exact (hv.inv).sl_ext (digF_row hp)
  · cases h
    have := hv.lit_inv
    subst this
    exact .w (.one (.sl (Reads.nil _ _) (fun g hg => by simp [Value.ownBlock] at hg) (fun i hi => by simp at hi)))
  · cases h
def spMake : Spec := funSpec true fun xs => match xs with
  | [.w (.agg [.bs 16 r]), .w (.one (.lit (.string pol))), v, .w (.one (.lit (.int .i64 e))), .w (.one (.lit (.string sec))), .w (.one (.lit (.int .i64 n)))] => (match asDigs v with
    | some (p, codes) => some (p ∧ i64P e ∧ i64P n, mkPV r pol codes e sec n)
    | none => none)
  | _ => none
theorem smake_ok : SpecOk Tryd.prog ShaMem 20 spMake := by
  refine funSpec_ok (call_enters Tryd.func20 (by kernel_rfl) rfl) (fun xs p r hg hp => ?_)
  split at hg
  · rename_i r pol v e sec n
    cases hq : asDigs v with
    | none => rw [hq] at hg; cases hg
    | some q =>
      obtain ⟨p0, codes⟩ := q
      rw [hq] at hg
      cases hg
      exact (make_fun r pol codes e sec n hp.2.1 hp.2.2).args fun C vs hv => by
        match vs, hv with
        | [x0, x1, x2, x3, x4, x5], ⟨h0, h1, h2, h3, h4, h5, _⟩ => exact ⟨h0, h1, asDigs_ok hq hp.1 h2, h3, h4, h5, trivial⟩
  · cases hg
theorem rmake_ok : SpecOk Tryd.prog ShaMem 21 spMake := by
  refine funSpec_ok (call_enters Tryd.func21 (by kernel_rfl) rfl) (fun xs p r hg hp => ?_)
  split at hg
  · rename_i r pol v e sec n
    cases hq : asDigs v with
    | none => rw [hq] at hg; cases hg
    | some q =>
      obtain ⟨p0, codes⟩ := q
      rw [hq] at hg
      cases hg
      exact (rmake_fun r pol codes e sec n hp.2.1 hp.2.2).args fun C vs hv => by
        match vs, hv with
        | [x0, x1, x2, x3, x4, x5], ⟨h0, h1, h2, h3, h4, h5, _⟩ => exact ⟨h0, h1, asDigs_ok hq hp.1 h2, h3, h4, h5, trivial⟩
  · cases hg
def opP (s : SealS) : Prop := (∀ b ∈ s.boxes, i64P b.nonce ∧ b.cipher.size ≤ 10000) ∧ s.boxes.length ≤ 1000000
def spSOpen : Spec := funSpec true fun xs => match xs with
  | [.w (.agg [.bs 16 r]), .w (.agg [.bs 16 c]), .w (.one (.lit (.int .i64 e))), v] => (match asSeal v with
    | some (p, s) => some (p ∧ i64P e ∧ opP s, opPV (opS (sealKeyS r c e) s.boxes))
    | none => none)
  | _ => none
theorem sopen_ok : SpecOk Tryd.prog ShaMem 26 spSOpen := by
  refine funSpec_ok (call_enters Tryd.func26 (by kernel_rfl) rfl) (fun xs p r hg hp => ?_)
  split at hg
  · rename_i r c e v
    cases hq : asSeal v with
    | none => rw [hq] at hg; cases hg
    | some q =>
      obtain ⟨p0, s⟩ := q
      rw [hq] at hg
      cases hg
      exact (open_fun r c e s hp.2.1 hp.2.2.1 hp.2.2.2).args fun C vs hv => by
        match vs, hv with
        | [x0, x1, x2, x3], ⟨h0, h1, h2, h3, _⟩ => exact ⟨h0, h1, h2, asSeal_ok hq hp.1 h3, trivial⟩
  · cases hg
theorem rsopen_ok : SpecOk Tryd.prog ShaMem 27 spSOpen := by
  refine funSpec_ok (call_enters Tryd.func27 (by kernel_rfl) rfl) (fun xs p r hg hp => ?_)
  split at hg
  · rename_i r c e v
    cases hq : asSeal v with
    | none => rw [hq] at hg; cases hg
    | some q =>
      obtain ⟨p0, s⟩ := q
      rw [hq] at hg
      cases hg
      exact (ropen_fun r c e s hp.2.1 hp.2.2.1 hp.2.2.2).args fun C vs hv => by
        match vs, hv with
        | [x0, x1, x2, x3], ⟨h0, h1, h2, h3, _⟩ => exact ⟨h0, h1, h2, asSeal_ok hq hp.1 h3, trivial⟩
  · cases hg
def sealSp (pre : SealS → Prop) (res : SealS → PV) : Spec := funSpec true fun xs => match xs with
  | [v] => (match asSeal v with
    | some (p, s) => some (p ∧ pre s, res s)
    | none => none)
  | _ => none
theorem sealSp_ok {f : Nat} {pre : SealS → Prop} {res : SealS → PV} (hent : ∀ args w, (callFunc f args).run Tryd.prog w = .ok (.enter f args) w) (h : ∀ s, pre s → FunOk Tryd.prog ShaMem f true [sealPV s] (res s)) : SpecOk Tryd.prog ShaMem f (sealSp pre res) := by
  refine funSpec_ok hent (fun xs p r hg hp => ?_)
  split at hg
  · rename_i v
    cases hq : asSeal v with
    | none => rw [hq] at hg; cases hg
    | some q =>
      obtain ⟨p0, l⟩ := q
      rw [hq] at hg
      cases hg
      exact (h l hp.2).args fun C vs hv => by
        match vs, hv with
        | [x], ⟨h1, _⟩ => exact ⟨asSeal_ok hq hp.1 h1, trivial⟩
  · cases hg
def strSp (pre : ByteArray → Prop) (res : ByteArray → PV) : Spec := funSpec true fun xs => match xs with
  | [.w (.one (.lit (.string b)))] => some (pre b, res b)
  | _ => none
theorem strSp_ok {f : Nat} {pre : ByteArray → Prop} {res : ByteArray → PV} (hent : ∀ args w, (callFunc f args).run Tryd.prog w = .ok (.enter f args) w) (h : ∀ s, pre s → FunOk Tryd.prog ShaMem f true [lit1 (.string s)] (res s)) : SpecOk Tryd.prog ShaMem f (strSp pre res) := by
  refine funSpec_ok hent (fun xs p r hg hp => ?_)
  split at hg
  · cases hg; exact h _ hp
  · cases hg
def spSSame : Spec := funSpec true fun xs => match xs with
  | [v, u] => (match asSeal v, asSeal u with
    | some (p, s), some (q, t) => some (p ∧ q ∧ s = t ∧ s.boxes.length ≤ 1000000, pvB true)
    | _, _ => none)
  | _ => none
theorem ssame_ok : SpecOk Tryd.prog ShaMem 24 spSSame := by
  refine funSpec_ok (call_enters Tryd.func24 (by kernel_rfl) rfl) (fun xs p r hg hp => ?_)
  split at hg
  · rename_i v u
    cases hq : asSeal v <;> cases hq2 : asSeal u <;> simp only [hq, hq2] at hg <;> try (cases hg; done)
    cases hg
    obtain ⟨p1, p2, e, p3⟩ := hp
    exact (ssame_fun _ p3).args fun C vs hv => by
      match vs, hv with
      | [x, y], ⟨h1, h2, _⟩ => exact ⟨asSeal_ok hq p1 h1, by rw [e]; exact asSeal_ok hq2 p2 h2, trivial⟩
  · cases hg
def smallB (b : ByteArray) : Prop := b.size < 4611686018427387904
def slL7 : List (Nat × Spec) := (20, spMake) :: (21, spMake) :: (26, spSOpen) :: (27, spSOpen) ::
  (28, sealSp SealOk fun s => lit1 (.string (strOf (encS s)))) :: (31, sealSp SealOk fun s => lit1 (.string (strOf (encS s)))) ::
  (29, strSp smallB fun b => decPV b.data.toList) :: (30, strSp smallB fun b => decPV b.data.toList) ::
  (24, spSSame) :: (25, sealSp (fun s => s.boxes.length < 9223372036854775808) fun s => pvB (fewS s)) :: slL6
theorem sl7_ok : ∀ p ∈ slL7, SpecOk Tryd.prog ShaMem p.1 p.2 := by
  intro p hp
  simp only [slL7, List.mem_cons] at hp
  rcases hp with rfl | rfl | rfl | rfl | rfl | rfl | rfl | rfl | rfl | rfl | hp
  · exact smake_ok
  · exact rmake_ok
  · exact sopen_ok
  · exact rsopen_ok
  · exact sealSp_ok (call_enters Tryd.func28 (by kernel_rfl) rfl) encode_fun
  · exact sealSp_ok (call_enters Tryd.func31 (by kernel_rfl) rfl) rencode_fun
  · exact strSp_ok (call_enters Tryd.func29 (by kernel_rfl) rfl) decode_fun
  · exact strSp_ok (call_enters Tryd.func30 (by kernel_rfl) rfl) rdecode_fun
  · exact ssame_ok
  · exact sealSp_ok (call_enters Tryd.func25 (by kernel_rfl) rfl) few_fun
  · exact sl6_ok p hp
theorem sl7M : Mach Tryd.prog ShaMem (find slL7) := ⟨specs_of sl7_ok, mixed_⟩

/-! ### Facts -/
def dgN (n : UInt8) : List UInt8 := n :: List.replicate 15 0
def bP : ByteArray := { data := #[112] }
def bSec : ByteArray := { data := #[115, 101, 99, 114, 101, 116] }
def s31 : SealS := ⟨bP, 5, [sealB (sealKeyS (dgN 1) (dgN 2) 5) 7 bSec, sealB (sealKeyS (dgN 1) (dgN 3) 5) 7 bSec]⟩
def sealKeyN (root code : List Nat) (e : Int) : List Nat := forceL (deriveN root [115, 101, 97, 108] [code, bN (wInt e)]) fun d => d
theorem sealKey_N (root code : List UInt8) (e : Int) : bN (sealKeyS root code e) = sealKeyN (bN root) (bN code) e := by
  unfold sealKeyS sealKeyN
  rw [forceL_eq, derive_N]
  rfl
/-- Whether a key other than its own opens what was sealed. -/
def fitN (k k' : List Nat) : Bool := forceL (applyN k' 7 [115, 101, 99, 114, 101, 116]) fun c => tagN k 7 c == tagN k' 7 c
def kN (c : Nat) (e : Int) : List Nat := sealKeyN (1 :: List.replicate 15 0) (c :: List.replicate 15 0) e
set_option maxRecDepth 1000000 in
theorem fits : (fitN (kN 3 5) (kN 2 5) || (fitN (kN 4 5) (kN 2 5) || (fitN (kN 4 5) (kN 3 5) || (fitN (kN 3 6) (kN 2 5) || fitN (kN 3 6) (kN 3 5))))) = false := by decide +kernel
theorem opB_seal (k k' : List UInt8) (n : Int) (s : ByteArray) : opB k (sealB k' n s) = (tagS k n (applyS k' n s.data.toList) == tagS k' n (applyS k' n s.data.toList)) := by
  unfold opB opened sealB
  dsimp only
  rw [strOf_list]
theorem opB_own (k : List UInt8) (n : Int) (s : ByteArray) : opB k (sealB k n s) = true := by rw [opB_seal]; simp
theorem opB_not {k k' : List UInt8} (h : fitN (bN k) (bN k') = false) : opB k (sealB k' 7 bSec) = false := by
  rw [opB_seal, beq_eq_false_iff_ne]
  intro e
  have := congrArg bN e
  rw [tag_N, tag_N, apply_N] at this
  unfold fitN at h
  rw [forceL_eq] at h
  have h2 : bN bSec.data.toList = [115, 101, 99, 114, 101, 116] := rfl
  rw [h2] at this
  rw [this] at h
  simp at h
theorem kN_eq (c : UInt8) (e : Int) : bN (sealKeyS (dgN 1) (dgN c) e) = kN c.toNat e := by
  rw [sealKey_N]
  rfl
theorem sealB_tag (k : List UInt8) (n : Int) (s : ByteArray) : (sealB k n s).tag.length = 16 := tagS_length k n (applyS k n s.data.toList)
structure SanF31 (s : SealS) : Prop where
  mkv : mkV (dgN 1) bP [dgN 2, dgN 3] 5 bSec 7 = s
  mke : mkE bP [dgN 2, dgN 3] 5 bSec 7 = 0
  o1 : opS (sealKeyS (dgN 1) (dgN 3) 5) s.boxes = (bSec, 0)
  o2 : opS (sealKeyS (dgN 1) (dgN 4) 5) s.boxes = ({ data := #[] }, 18)
  o3 : opS (sealKeyS (dgN 1) (dgN 3) 6) s.boxes = ({ data := #[] }, 18)
  ok : SealOk s
  len : s.boxes.length = 2
theorem sanF31 : SanF31 s31 := by
  have h := fits
  simp only [Bool.or_eq_false_iff] at h
  obtain ⟨h1, h2, h3, h4, h5⟩ := h
  have n1 := opB_not (k := sealKeyS (dgN 1) (dgN 3) 5) (k' := sealKeyS (dgN 1) (dgN 2) 5) (by rw [kN_eq, kN_eq]; exact h1)
  have n2 := opB_not (k := sealKeyS (dgN 1) (dgN 4) 5) (k' := sealKeyS (dgN 1) (dgN 2) 5) (by rw [kN_eq, kN_eq]; exact h2)
  have n3 := opB_not (k := sealKeyS (dgN 1) (dgN 4) 5) (k' := sealKeyS (dgN 1) (dgN 3) 5) (by rw [kN_eq, kN_eq]; exact h3)
  have n4 := opB_not (k := sealKeyS (dgN 1) (dgN 3) 6) (k' := sealKeyS (dgN 1) (dgN 2) 5) (by rw [kN_eq, kN_eq]; exact h4)
  have n5 := opB_not (k := sealKeyS (dgN 1) (dgN 3) 6) (k' := sealKeyS (dgN 1) (dgN 3) 5) (by rw [kN_eq, kN_eq]; exact h5)
  have y := opB_own (sealKeyS (dgN 1) (dgN 3) 5) 7 bSec
  have hsz : ∀ k, (sealB k 7 bSec).cipher.size = 6 := fun k => by
    unfold sealB
    dsimp only
    rw [strOf_size, applyS_length]
    rfl
  refine ⟨rfl, rfl, ?_, ?_, ?_, ⟨by decide, ⟨by decide, by decide⟩, by unfold s31; simp, fun b hb => ?_⟩, rfl⟩
  · unfold s31
    unfold opS
    rw [n1, cond_false]
    unfold opS
    rw [y, cond_true]
    unfold sealB
    dsimp only
    rw [strOf_list, apply_back, strOf_toList]
  · unfold s31
    unfold opS
    rw [n2, cond_false]
    unfold opS
    rw [n3, cond_false]
    rfl
  · unfold s31
    unfold opS
    rw [n4, cond_false]
    unfold opS
    rw [n5, cond_false]
    rfl
  · unfold s31 at hb
    simp only [List.mem_cons, List.not_mem_nil, or_false] at hb
    rcases hb with rfl | rfl
    · exact ⟨(⟨by decide, by decide⟩ : i64P 7), by rw [hsz]; decide, sealB_tag _ _ _⟩
    · exact ⟨(⟨by decide, by decide⟩ : i64P 7), by rw [hsz]; decide, sealB_tag _ _ _⟩

end Go.Proofs.YtgndblhpfjkfhaaDoor.Pv

/-
  The sanity of the laws of sealing by the abstract machine.
-/
namespace Go.Proofs.YtgndblhpfjkfhaaDoor.Pv
open Go.RowKit

def digO (x : Nat) (l : List UInt8) : Nat × Option Bool × Nat × AObj := (x, none, 0, .box 23 [.bs 16 l])
theorem i64_of {n : Int} (h1 : -9223372036854775808 ≤ n) (h2 : n < 9223372036854775808) : i64P n := ⟨h1, h2⟩
set_option maxRecDepth 100000 in
set_option maxHeartbeats 2000000 in
theorem sealSanity_of (s : SealS) (F : SanF31 s) : FunOk Tryd.prog ShaMem 19 true [] (pvB true) := by
  have M := sl7M
  have hbt : Tryd.prog.types[23].bytes = 16 := by kernel_rfl
  have hdec := enc_dec s F.ok (by rw [F.len]; decide)
  refine funOk_of Tryd.func19 rfl rfl sha_ext (fun A hS hn hI => ?_)
  refine tri_reg M hI hn (outs := ?_) (s' := ?_) ?_ ?_ ?_ ?_
  rotate_left 2
  · rfl
  · kernel_rfl
  · simp
  refine tri_reg M hI hn (outs := ?_) (s' := ?_) ?_ ?_ ?_ ?_
  rotate_left 2
  · rfl
  · kernel_rfl
  · simp
  refine tri_conv (s' := ⟨[(0, none, pvB false), (1, none, pv1 (.pt 1004 0 0)), (2, none, pv1 (.pt 1005 0 0)), (3, none, pv1 (.pt 1006 0 0)), (4, none, pv1 (.pt 1007 0 0))], [digO 1004 (dgN 1), digO 1005 (dgN 2), digO 1006 (dgN 3), digO 1007 (dgN 4)]⟩) (fun a w hg => (hg.reset (kT := [0, 1, 2, 3, 4]) (kO := [1004, 1005, 1006, 1007]) (by rfl) (by simp)).same ?_ ?_) ?_
  · exact .cons rfl (.cons rfl (.cons rfl (.cons rfl (.cons rfl .nil))))
  · exact .cons (.box rfl) (.cons (.box rfl) (.cons (.box rfl) (.cons (.box rfl) .nil)))
  have hop : opP s := ⟨fun b hb => ⟨(F.ok.box b hb).nonce, (F.ok.box b hb).cipher⟩, by rw [F.len]; decide⟩
  have hlenE := encP_len F.ok s.boxes.length (Nat.le_refl _)
  refine tri_reg M hI hn (outs := ?_) (s' := ?_) ?_ ?_ ?_ ?_
  rotate_left 2
  · rfl
  · kernel_rfl
  · simp
    refine ⟨fun i hi => ?_, fun i hi => ?_, i64_of (by decide) (by decide), i64_of (by decide) (by decide)⟩
    · match i, hi with
      | 0, _ => exact all_cold rfl
      | 1, _ => exact all_cold rfl
    · match i, hi with
      | 0, _ => rfl
      | 1, _ => rfl
  refine tri_conv (s' := ⟨[(0, none, pvB false), (1, none, pv1 (.pt 1004 0 0)), (3, none, pv1 (.pt 1006 0 0)), (4, none, pv1 (.pt 1007 0 0)), (5, none, pv1 (.pt 2008 0 0)), (6, none, pvI 0)], [digO 1004 (dgN 1), digO 1006 (dgN 3), digO 1007 (dgN 4), (2008, none, 0, .box 41 (sealL s))]⟩) (fun a w hg => (hg.reset (kT := [0, 1, 3, 4, 5, 6]) (kO := [1004, 1006, 1007, 2008]) (by rfl) (by simp)).same ?_ ?_) ?_
  · refine .cons rfl (.cons rfl (.cons rfl (.cons rfl (.cons rfl (.cons ?_ .nil)))))
    exact congrArg pvI F.mke
  · refine .cons (.box rfl) (.cons (.box rfl) (.cons (.box rfl) (.cons (.box ?_) .nil)))
    rw [← F.mkv]
    rfl
  refine tri_reg M hI hn (outs := ?_) (s' := ?_) ?_ ?_ ?_ ?_
  rotate_left 2
  · rfl
  · kernel_rfl
  · simp
    exact ⟨i64_of (by decide) (by decide), hop⟩
  refine tri_reg M hI hn (outs := ?_) (s' := ?_) ?_ ?_ ?_ ?_
  rotate_left 2
  · rfl
  · kernel_rfl
  · simp
    exact ⟨i64_of (by decide) (by decide), hop⟩
  refine tri_reg M hI hn (outs := ?_) (s' := ?_) ?_ ?_ ?_ ?_
  rotate_left 2
  · rfl
  · kernel_rfl
  · simp
    exact ⟨i64_of (by decide) (by decide), hop⟩
  refine tri_reg M hI hn (outs := ?_) (s' := ?_) ?_ ?_ ?_ ?_
  rotate_left 2
  · rfl
  · kernel_rfl
  · simp
    refine ⟨F.ok, ?_⟩
    unfold smallB
    rw [strOf_size]
    have h1 := F.len
    show (encP s s.boxes.length).length < _
    omega
  refine tri_reg M hI hn (outs := ?_) (s' := ?_) ?_ ?_ ?_ ?_
  rotate_left 2
  · rfl
  · kernel_rfl
  · simp
    exact ⟨i64_of (by decide) (by decide), i64_of (by decide) (by decide)⟩
  refine tri_conv (s' := ⟨[(0, none, pvB false), (1, none, pv1 (.pt 1004 0 0)), (5, none, pv1 (.pt 2008 0 0)), (6, none, pvI 0), (7, none, lit1 (.string bSec)), (8, none, pvI 0), (10, none, pvI 18), (12, none, pvI 18), (13, none, pv1 (.pt 6006 0 0)), (14, none, pvI 0), (16, none, pvI 1)], [digO 1004 (dgN 1), (2008, none, 0, .box 41 (sealL s)), (6006, none, 0, .box 41 (sealL s))]⟩) (fun a w hg => (hg.reset (kT := [0, 1, 5, 6, 7, 8, 10, 12, 13, 14, 16]) (kO := [1004, 2008, 6006]) (by rfl) (by simp)).same ?_ ?_) ?_
  · simp only [rowBox_boxF, strOf_list]
    refine .cons rfl (.cons rfl (.cons rfl (.cons rfl (.cons ?_ (.cons ?_ (.cons ?_ (.cons ?_ (.cons rfl (.cons ?_ (.cons rfl .nil))))))))))
    · exact congrArg (fun r : ByteArray × Int => lit1 (.string r.1)) F.o1
    · exact congrArg (fun r : ByteArray × Int => pvI r.2) F.o1
    · exact congrArg (fun r : ByteArray × Int => pvI r.2) F.o2
    · exact congrArg (fun r : ByteArray × Int => pvI r.2) F.o3
    · exact congrArg pvI hdec.1
  · simp only [rowBox_boxF, strOf_list]
    refine .cons (.box rfl) (.cons (.box rfl) (.cons (.box ?_) .nil))
    exact congrArg sealL hdec.2
  refine tri_reg M hI hn (outs := ?_) (s' := ?_) ?_ ?_ ?_ ?_
  rotate_left 2
  · rfl
  · kernel_rfl
  · simp
    rw [hbt]
    exact ⟨by decide, fun i _ => rfl, fun i _ => rfl, i64_of (by decide) (by decide), i64_of (by decide) (by decide)⟩
  refine tri_conv (s' := ⟨[(0, none, pvB false), (5, none, pv1 (.pt 2008 0 0)), (6, none, pvI 0), (7, none, lit1 (.string bSec)), (8, none, pvI 0), (10, none, pvI 18), (12, none, pvI 18), (13, none, pv1 (.pt 6006 0 0)), (14, none, pvI 0), (16, none, pvI 1), (18, none, pvI 2)], [(2008, none, 0, .box 41 (sealL s)), (6006, none, 0, .box 41 (sealL s))]⟩) (fun a w hg => (hg.reset (kT := [0, 5, 6, 7, 8, 10, 12, 13, 14, 16, 18]) (kO := [2008, 6006]) (by rfl) (by simp)).same ?_ ?_) ?_
  · refine .cons rfl (.cons rfl (.cons rfl (.cons rfl (.cons rfl (.cons rfl (.cons rfl (.cons rfl (.cons rfl (.cons rfl (.cons ?_ .nil))))))))))
    refine congrArg pvI ?_
    unfold mkE
    rw [if_neg (by decide), if_pos (.inl (by rw [rowD_length]; decide))]
  · exact .cons (.box rfl) (.cons (.box rfl) .nil)
  refine tri_reg M hI hn (outs := ?_) (s' := ?_) ?_ ?_ ?_ ?_
  rotate_left 2
  · rfl
  · kernel_rfl
  · simp
    intro _
    rw [F.len]
    decide
  refine tri_ret (fun a w hg => ⟨.inr rfl, _, ?_, hg⟩)
  refine retTo_cold (out := ?_) ?_ ?_ ?_ ?_ ?_
  rotate_left 1
  · rfl
  · simp
  · rfl
  · rfl
  have e1 : (bSec.toList == ({ data := #[115, 101, 99, 114, 101, 116] } : ByteArray).toList) = true := by unfold bSec; exact beq_self_eq_true _
  have e2 : bSec.toList = [115, 101, 99, 114, 101, 116] := by simpa using e1
  simp [e2, F.len]
theorem sealSanity_fun : FunOk Tryd.prog ShaMem 19 true [] (pvB true) := sealSanity_of _ sanF31

end Go.Proofs.YtgndblhpfjkfhaaDoor.Pv

/-
  The laws of sealing by the abstract machine.
-/
namespace Go.Proofs.YtgndblhpfjkfhaaDoor.Pv
open Go.RowKit

def spSan : Spec := funSpec true fun xs => match xs with
  | [] => some (True, pvB true)
  | _ => none
theorem spSan_ok {f : Nat} (hent : ∀ args w, (callFunc f args).run Tryd.prog w = .ok (.enter f args) w) (h : FunOk Tryd.prog ShaMem f true [] (pvB true)) : SpecOk Tryd.prog ShaMem f spSan := by
  refine funSpec_ok hent (fun xs p r hg hp => ?_)
  split at hg
  · cases hg; exact h
  · cases hg
def slL8 : List (Nat × Spec) := (19, spSan) :: slL7
theorem sl8_ok : ∀ p ∈ slL8, SpecOk Tryd.prog ShaMem p.1 p.2 := by
  intro p hp
  rcases List.mem_cons.1 hp with rfl | hp
  · exact spSan_ok (call_enters Tryd.func19 (by kernel_rfl) rfl) sealSanity_fun
  · exact sl7_ok p hp
theorem sl8M : Mach Tryd.prog ShaMem (find slL8) := ⟨specs_of sl8_ok, mixed_⟩
set_option maxRecDepth 100000 in
set_option maxHeartbeats 2000000 in
theorem lawSealOpen_fun (root code : List UInt8) (e : Int) (s : SealS) (he : i64P e) (hs : ∀ b ∈ s.boxes, i64P b.nonce) (hl : s.boxes.length < 9223372036854775808) : FunOk Tryd.prog ShaMem 5 true [digPV root, digPV code, pvI e, sealPV s] (pvB true) := by
  have M := sl8M
  refine funOk_of Tryd.func5 rfl rfl sha_ext (fun A hS hn hI => ?_)
  refine tri_reg M hI hn (outs := ?_) (s' := ?_) ?_ ?_ ?_ ?_
  rotate_left 2
  · rfl
  · kernel_rfl
  · simp
  refine tri_seq ?_
  refine tri_reg M hI hn (outs := ?_) (s' := ?_) ?_ ?_ ?_ ?_
  rotate_left 2
  · rfl
  · kernel_rfl
  · simp
    exact hl
  refine tri_cond (b := ?_) ?_ (fun hc => ?_) (fun hc => ?_)
  rotate_left 1
  · rfl
  · refine tri_reg M hI hn (outs := ?_) (s' := ?_) ?_ ?_ ?_ ?_
    rotate_left 2
    · rfl
    · kernel_rfl
    · simp
    refine tri_ret (fun a w hg => ⟨.inr rfl, _, ?_, hg⟩)
    refine retTo_cold (out := ?_) ?_ ?_ ?_ ?_ ?_
    rotate_left 1
    · rfl
    · simp
    · rfl
    · rfl
    rfl
  · have hf : fewS s = true := by simpa using hc
    have hop : opP s := by
      unfold fewS at hf
      simp only [Bool.and_eq_true, List.all_eq_true, decide_eq_true_eq] at hf
      exact ⟨fun b hb => ⟨hs b hb, by have := hf.1 b hb; omega⟩, by omega⟩
    refine tri_skip ?_
    change Tri _ _ _ _ _
    refine tri_reg M hI hn (outs := ?_) (s' := ?_) ?_ ?_ ?_ ?_
    rotate_left 2
    · rfl
    · kernel_rfl
    · simp
      exact ⟨he, hop⟩
    refine tri_reg M hI hn (outs := ?_) (s' := ?_) ?_ ?_ ?_ ?_
    rotate_left 2
    · rfl
    · kernel_rfl
    · simp
      exact ⟨he, hop⟩
    refine tri_reg M hI hn (outs := ?_) (s' := ?_) ?_ ?_ ?_ ?_
    rotate_left 2
    · rfl
    · kernel_rfl
    · simp
    refine tri_ret (fun a w hg => ⟨.inr rfl, _, ?_, hg⟩)
    refine retTo_cold (out := ?_) ?_ ?_ ?_ ?_ ?_
    rotate_left 1
    · rfl
    · simp
    · rfl
    · rfl
    simp
def lmSt (root : List UInt8) (pol : ByteArray) (codes : List (List UInt8)) (e : Int) (sec : ByteArray) (n : Int) (k : Nat) : St := ⟨[(3, none, pvI e), (6, none, pv1 (.pt 0 0 0)), (13, none, pv1 (.pt 3010 0 0)), (14, none, pvI (mkE pol codes e sec n)), (15, none, pv1 (.pt 4010 0 0)), (16, none, pvI (mkE pol codes e sec n)), (53, none, pv1 (.sl 16 codes.length (digF codes))), (54, none, pvI codes.length), (55, none, pvI k)],
  [(0, none, 0, .box 23 [.bs 16 root]), (3010, none, 0, .box 41 (sealL (mkV root pol codes e sec n))), (4010, none, 0, .box 41 (sealL (mkV root pol codes e sec n)))]⟩
theorem mkV_len (root : List UInt8) (pol : ByteArray) (codes : List (List UInt8)) (e : Int) (sec : ByteArray) (n : Int) : (mkV root pol codes e sec n).boxes.length ≤ 64 := by
  unfold mkV
  split
  · rename_i h
    unfold mkE at h
    split at h
    · cases h
    · split at h
      · cases h
      · rename_i h1 h2
        show (mkBoxes root codes e n sec codes.length).length ≤ 64
        rw [mkBoxes_len (Nat.le_refl _)]
        omega
  · simp
set_option maxRecDepth 100000 in
set_option maxHeartbeats 2000000 in
theorem lawSealMake_fun (root : List UInt8) (pol : ByteArray) (codes : List (List UInt8)) (e : Int) (sec : ByteArray) (n : Int) (he : i64P e) (hn' : i64P n) (hl : codes.length < 9223372036854775808) : FunOk Tryd.prog ShaMem 4 true [digPV root, lit1 (.string pol), pv1 (.sl 16 codes.length (digF codes)), pvI e, lit1 (.string sec), pvI n] (pvB true) := by
  have M := sl8M
  refine funOk_of Tryd.func4 rfl rfl sha_ext (fun A hS hn hI => ?_)
  have hml := mkV_len root pol codes e sec n
  refine tri_reg M hI hn (outs := ?_) (s' := ?_) ?_ ?_ ?_ ?_
  rotate_left 2
  · rfl
  · kernel_rfl
  · simp
  refine tri_seq ?_
  refine tri_reg M hI hn (outs := ?_) (s' := ?_) ?_ ?_ ?_ ?_
  rotate_left 2
  · rfl
  · kernel_rfl
  · simp
  refine tri_cond (b := ?_) ?_ (fun hc => ?_) (fun hc => ?_)
  rotate_left 1
  · rfl
  · refine tri_reg M hI hn (outs := ?_) (s' := ?_) ?_ ?_ ?_ ?_
    rotate_left 2
    · rfl
    · kernel_rfl
    · simp
    refine tri_ret (fun a w hg => ⟨.inr rfl, _, ?_, hg⟩)
    refine retTo_cold (out := ?_) ?_ ?_ ?_ ?_ ?_
    rotate_left 1
    · rfl
    · simp
    · rfl
    · rfl
    rfl
  · refine tri_skip ?_
    change Tri _ _ _ _ _
    refine tri_reg M hI hn (outs := ?_) (s' := ?_) ?_ ?_ ?_ ?_
    rotate_left 2
    · rfl
    · kernel_rfl
    · simp [he, hn']
    refine tri_reg M hI hn (outs := ?_) (s' := ?_) ?_ ?_ ?_ ?_
    rotate_left 2
    · rfl
    · kernel_rfl
    · simp [he, hn']
    refine tri_seq ?_
    refine tri_reg M hI hn (outs := ?_) (s' := ?_) ?_ ?_ ?_ ?_
    rotate_left 2
    · rfl
    · kernel_rfl
    · simp
    refine tri_conv (s' := lmSt root pol codes e sec n 0) (fun a w hg => (hg.reset (kT := [3, 6, 13, 14, 15, 16, 53, 54, 55]) (kO := [0, 3010, 4010]) (by rfl) (by simp)).same ?_ ?_) ?_
    · simp only [rowD_digF]
      exact .cons rfl (.cons rfl (.cons rfl (.cons rfl (.cons rfl (.cons rfl (.cons rfl (.cons rfl (.cons rfl .nil))))))))
    · simp only [rowD_digF]
      exact .cons (.box rfl) (.cons (.box rfl) (.cons (.box rfl) .nil))
    refine tri_block ?_
    refine tri_loop codes.length (fun k t => t = lmSt root pol codes e sec n k) 0 rfl (by omega) (fun k t hJ hk => ?_)
    subst hJ
    refine tri_reg M hI hn (outs := ?_) (s' := ?_) ?_ ?_ ?_ ?_
    rotate_left 2
    · rfl
    · kernel_rfl
    · simp
    refine tri_seq ?_
    refine tri_cond (b := ?_) ?_ (fun hc => ?_) (fun hc => ?_)
    rotate_left 1
    · rfl
    · have hk2 : k < codes.length := by simpa using hc
      refine tri_skip ?_
      change Tri _ _ _ _ _
      refine tri_seq ?_
      refine tri_block ?_
      refine tri_reg M hI hn (outs := ?_) (s' := ?_) ?_ ?_ ?_ ?_
      rotate_left 2
      · rfl
      · kernel_rfl
      · simp
        exact hk2
      refine tri_reg M hI hn (outs := ?_) (s' := ?_) ?_ ?_ ?_ ?_
      rotate_left 2
      · rfl
      · kernel_rfl
      · simp [he]
      refine tri_cond (b := ?_) ?_ (fun hc => ?_) (fun hc => ?_)
      rotate_left 1
      · rfl
      · simp at hc
      · refine tri_skip ?_
        change Tri _ _ _ _ _
        refine tri_region M hI hn (outs := ?_) (s' := ?_) ?_ ?_ ?_ ?_
        rotate_left 2
        · rfl
        · kernel_rfl
        · simp
        intro a w hg
        refine ⟨k + 1, _, by omega, by omega, rfl, (hg.reset (kT := [3, 6, 13, 14, 15, 16, 53, 54, 55]) (kO := [0, 3010, 4010]) (by rfl) (by simp)).same ?_ ?_⟩
        · exact .cons rfl (.cons rfl (.cons rfl (.cons rfl (.cons rfl (.cons rfl (.cons rfl (.cons rfl (.cons (by rw [wrap_nat k (by omega)]) .nil))))))))
        · exact .cons (.box rfl) (.cons (.box rfl) (.cons (.box rfl) .nil))
    · refine tri_exit ?_   -- exit 0
      change Tri _ _ _ _ _
      refine tri_reg M hI hn (outs := ?_) (s' := ?_) ?_ ?_ ?_ ?_
      rotate_left 2
      · rfl
      · kernel_rfl
      · simp
        omega
      refine tri_ret (fun a w hg => ⟨.inr rfl, _, ?_, hg⟩)
      refine retTo_cold (out := ?_) ?_ ?_ ?_ ?_ ?_
      rotate_left 1
      · rfl
      · simp
      · rfl
      · rfl
      simp

set_option maxRecDepth 100000 in
set_option maxHeartbeats 2000000 in
theorem lawSealEnc_fun (s : SealS) (b : ByteArray) (he : i64P s.epo) (hs : ∀ b ∈ s.boxes, i64P b.nonce ∧ b.tag.length = 16) (hl : s.boxes.length < 9223372036854775808) : FunOk Tryd.prog ShaMem 6 true [sealPV s, lit1 (.string b)] (pvB true) := by
  have M := sl8M
  refine funOk_of Tryd.func6 rfl rfl sha_ext (fun A hS hn hI => ?_)
  refine tri_reg M hI hn (outs := ?_) (s' := ?_) ?_ ?_ ?_ ?_
  rotate_left 2
  · rfl
  · kernel_rfl
  · simp
  refine tri_seq ?_
  refine tri_reg M hI hn (outs := ?_) (s' := ?_) ?_ ?_ ?_ ?_
  rotate_left 2
  · rfl
  · kernel_rfl
  · simp
    exact hl
  refine tri_cond (b := ?_) ?_ (fun hc => ?_) (fun hc => ?_)
  rotate_left 1
  · rfl
  · refine tri_reg M hI hn (outs := ?_) (s' := ?_) ?_ ?_ ?_ ?_
    rotate_left 2
    · rfl
    · kernel_rfl
    · simp
    refine tri_ret (fun a w hg => ⟨.inr rfl, _, ?_, hg⟩)
    refine retTo_cold (out := ?_) ?_ ?_ ?_ ?_ ?_
    rotate_left 1
    · rfl
    · simp
    · rfl
    · rfl
    rfl
  · have hf : fewS s = true ∧ b.size ≤ 5000 := by
      by_cases h1 : fewS s = true
      · simp [h1] at hc
        exact ⟨h1, by omega⟩
      · simp [h1] at hc
    obtain ⟨hf, hb⟩ := hf
    have hok : SealOk s := by
      unfold fewS at hf
      simp only [Bool.and_eq_true, List.all_eq_true, decide_eq_true_eq] at hf
      exact ⟨by omega, he, by omega, fun b hb => ⟨(hs b hb).1, by have := hf.1 b hb; omega, (hs b hb).2⟩⟩
    have hbl : b.data.toList.length = b.size := Array.length_toList
    have hv := decV_ok (t := b.data.toList) (by omega)
    have hde := @dec_enc b.data.toList
    have hlenE := encP_len hok s.boxes.length (Nat.le_refl _)
    have hlen := hok.len
    have hsm : smallB (strOf (encS s)) := by
      unfold smallB
      rw [strOf_size]
      show (encP s s.boxes.length).length < _
      omega
    have hsb : smallB b := by unfold smallB; omega
    refine tri_skip ?_
    change Tri _ _ _ _ _
    refine tri_reg M hI hn (outs := ?_) (s' := ?_) ?_ ?_ ?_ ?_
    rotate_left 2
    · rfl
    · kernel_rfl
    · simp
      exact hok
    refine tri_reg M hI hn (outs := ?_) (s' := ?_) ?_ ?_ ?_ ?_
    rotate_left 2
    · rfl
    · kernel_rfl
    · simp
      exact hsm
    refine tri_reg M hI hn (outs := ?_) (s' := ?_) ?_ ?_ ?_ ?_
    rotate_left 2
    · rfl
    · kernel_rfl
    · simp
      exact hsb
    refine tri_reg M hI hn (outs := ?_) (s' := ?_) ?_ ?_ ?_ ?_
    rotate_left 2
    · rfl
    · kernel_rfl
    · simp
      exact hsb
    refine tri_conv (s' := ⟨[(1, none, lit1 (.string b)), (2, none, pv1 (.pt 0 0 0)), (5, none, lit1 (.string (strOf (encS s)))), (6, none, pv1 (.pt 4005 0 0)), (7, none, pvI (decE (encS s))), (8, none, pv1 (.pt 5005 0 0)), (9, none, pvI (decE b.data.toList)), (10, none, pv1 (.pt 6005 0 0)), (11, none, pvI (decE b.data.toList))],
      [(0, none, 0, .box 41 (sealL s)), (4005, none, 0, .box 41 (sealL (decV (encS s)))), (5005, none, 0, .box 41 (sealL (decV b.data.toList))), (6005, none, 0, .box 41 (sealL (decV b.data.toList)))]⟩) (fun a w hg => (hg.reset (kT := [1, 2, 5, 6, 7, 8, 9, 10, 11]) (kO := [0, 4005, 5005, 6005]) (by rfl) (by simp)).same ?_ ?_) ?_
    · simp only [rowBox_boxF, strOf_list]
      exact .cons rfl (.cons rfl (.cons rfl (.cons rfl (.cons rfl (.cons rfl (.cons rfl (.cons rfl (.cons rfl .nil))))))))
    · simp only [rowBox_boxF, strOf_list]
      exact .cons (.box rfl) (.cons (.box rfl) (.cons (.box rfl) (.cons (.box rfl) .nil)))
    have htx : strOf b.data.toList = b := strOf_toList b
    refine tri_seq ?_
    by_cases h64 : s.boxes.length ≤ 64
    · have hed := enc_dec s hok h64
      rw [hed.1, hed.2]
      have h64i : (s.boxes.length : Int) ≤ 64 := by omega
      generalize hV : decV b.data.toList = V at *
      generalize hE : decE b.data.toList = E at *
      refine tri_reg M hI hn (outs := ?_) (s' := ?_) ?_ ?_ ?_ ?_
      rotate_left 2
      · rfl
      · kernel_rfl
      · simp [h64i]
        try omega
      refine tri_cond (b := ?_) ?_ (fun hc => ?_) (fun hc => ?_)
      rotate_left 1
      · rfl
      · simp [h64i] at hc <;> omega
      · refine tri_skip ?_
        change Tri _ _ _ _ _
        refine tri_reg M hI hn (outs := ?_) (s' := ?_) ?_ ?_ ?_ ?_
        rotate_left 2
        · rfl
        · kernel_rfl
        · simp
          exact ⟨hok, by omega, fun _ => hv.1⟩
        refine tri_ret (fun a w hg => ⟨.inr rfl, _, ?_, hg⟩)
        refine retTo_cold (out := ?_) ?_ ?_ ?_ ?_ ?_
        rotate_left 1
        · rfl
        · simp
        · rfl
        · rfl
        by_cases h0 : E = 0
        · have h1 : strOf (encS V) = b := by rw [hde h0, htx]
          simp [h0, h1]
        · simp [h0]
    · have hed := enc_big s hok (by omega)
      rw [hed]
      have h64i : ¬ (s.boxes.length : Int) ≤ 64 := by omega
      generalize hV : decV b.data.toList = V at *
      generalize hE : decE b.data.toList = E at *
      refine tri_reg M hI hn (outs := ?_) (s' := ?_) ?_ ?_ ?_ ?_
      rotate_left 2
      · rfl
      · kernel_rfl
      · simp [h64i]
        try omega
      refine tri_cond (b := ?_) ?_ (fun hc => ?_) (fun hc => ?_)
      rotate_left 1
      · rfl
      · simp [h64i] at hc <;> omega
      · refine tri_skip ?_
        change Tri _ _ _ _ _
        refine tri_reg M hI hn (outs := ?_) (s' := ?_) ?_ ?_ ?_ ?_
        rotate_left 2
        · rfl
        · kernel_rfl
        · simp
          exact ⟨hok, by omega, fun _ => hv.1⟩
        refine tri_ret (fun a w hg => ⟨.inr rfl, _, ?_, hg⟩)
        refine retTo_cold (out := ?_) ?_ ?_ ?_ ?_ ?_
        rotate_left 1
        · rfl
        · simp
        · rfl
        · rfl
        by_cases h0 : E = 0
        · have h1 : strOf (encS V) = b := by rw [hde h0, htx]
          simp [h0, h1]
        · simp [h0]

end Go.Proofs.YtgndblhpfjkfhaaDoor.Pv

/-
  What the cards' rows give a walk: the two tables; how arguments read; the witness' world.
-/
namespace Go.Proofs.YtgndblhpfjkfhaaDoor
open Go.ChangeShapes Go.WideShapes Go.ChangeAt Go.RowKit Go.Joins Go.Deep
open Go.ChangeMaps (open_string shut_string)
set_option linter.unusedVariables false

theorem own : ownKnob Tryd.prog.godebug = none := by kernel_rfl
theorem laidOut : laidOutB Tryd.prog = true := by kernel_rfl

theorem gK : Tryd.prog.globalNamed "bootchain/sha.constants" = some 1 := by kernel_rfl
theorem gKType : (Tryd.prog.globals[1]?).map (·.type) = some 174 := by kernel_rfl
theorem gH : Tryd.prog.globalNamed "bootchain/sha.start" = some 0 := by kernel_rfl
theorem gHType : (Tryd.prog.globals[0]?).map (·.type) = some 161 := by kernel_rfl
theorem cellsK : Tryd.prog.cellsOf 174 = 64 := by kernel_rfl
theorem cellsH : Tryd.prog.cellsOf 161 = 8 := by kernel_rfl
theorem cellsU32 : Tryd.prog.cellsOf 159 = 1 := by kernel_rfl
def wordsI (l : List UInt32) : List Int := l.map fun x => (x.toNat : Int)
theorem dataK : (Rows.laid_bootchain_sha_constants : DataW Unit) = Lib.tabData .u32 (wordsI shaK) := by kernel_rfl
theorem dataH : (Rows.laid_bootchain_sha_start : DataW Unit) = Lib.tabData .u32 (wordsI shaH0) := by kernel_rfl

theorem rangeAt_tab {W : World} {name : String} {l : List UInt32} {g : Nat} (h : Lib.TabIs Tryd.prog W name .u32 (wordsI l)) (hg : Tryd.prog.globalNamed name = some g) : W.rangeAt g 0 (l.map w32) := by
  intro j v hj
  rw [List.getElem?_map] at hj
  obtain ⟨x, hx, rfl⟩ := Option.map_eq_some_iff.1 hj
  have hl : j < l.length := by
    rcases Nat.lt_or_ge j l.length with h' | h'
    · exact h'
    · rw [List.getElem?_eq_none h'] at hx; cases hx
  have := h.cell hg j (by unfold wordsI; simpa using hl)
  rw [show (wordsI l).getD j 0 = (x.toNat : Int) from by unfold wordsI; simp [List.getD, hx]] at this
  simpa [w32] using this

/-- WHAT THE ROW's LIST GIVES: the package's two tables. -/
theorem shaMem_of_laid {W : World} (h : laidMetH Tryd.prog [("bootchain/sha.constants", Rows.laid_bootchain_sha_constants), ("bootchain/sha.start", Rows.laid_bootchain_sha_start)] W) : ShaMem W := by
  have h1 : laidMet Tryd.prog [("bootchain/sha.constants", Rows.laid_bootchain_sha_constants), ("bootchain/sha.start", Rows.laid_bootchain_sha_start)] W := h
  have h2 := laidMet.tail h1
  rw [dataK] at h1
  rw [dataH] at h2
  exact ⟨rangeAt_tab (Lib.tabIs_of_head gK gKType Tryd.underlying174 Tryd.underlying159 cellsU32 cellsK h1) gK,
    rangeAt_tab (Lib.tabIs_of_head gH gHType Tryd.underlying161 Tryd.underlying159 cellsU32 cellsH h2) gH⟩

/-- A world for the witness. -/
def layCells (cs : List Value) : Obj → Obj
  | .cells _ t frozen => .cells cs.toArray t frozen
  | o => o
noncomputable def laidWorld (os : Os) : World :=
  { World.holding Tryd.prog os ⟨#[], #[], []⟩ with
    heap := ((World.holding Tryd.prog os ⟨#[], #[], []⟩).heap.modify 1 (layCells (shaK.map w32))).modify 0 (layCells (shaH0.map w32)) }

theorem reads_list {α : Type} {n : Nat} {E : Nat → List Value} {R : α → Prop} (g : α → List Value) (h : ∀ i, i < n → ∃ a, E i = g a ∧ R a) : ∃ l : List α, l.length = n ∧ (List.range n).flatMap E = l.flatMap g ∧ ∀ a ∈ l, R a := by
  induction n with
  | zero => exact ⟨[], rfl, rfl, fun a h => by cases h⟩
  | succ n ih =>
    obtain ⟨l, h1, h2, h3⟩ := ih fun i hi => h i (by omega)
    obtain ⟨a, h4, h5⟩ := h n (by omega)
    refine ⟨l ++ [a], by simp [h1], ?_, fun b hb => ?_⟩
    · rw [List.range_succ, List.flatMap_append, List.flatMap_append, h2]
      simp [h4]
    · rcases List.mem_append.1 hb with hb | hb
      · exact h3 b hb
      · rw [List.mem_singleton.1 hb]; exact h5

section
variable {H : Type} {enc : TypeId × Value → H} {P : Program} {w : World} {base : Nat} {spare : Nat → Bool} {held : Bool}
/-- A slice: its cells, and what each element reads as. -/
theorem trod_reads {t e : TypeId} {k : Nat} {fuel : Nat} {cs : List Value} {x : DataW H × List MemPlace} (ht : P.underlying t = some (.slice e)) (hk : P.cellsOf e = k) (hk0 : 0 < k) (h : DataW.trod enc P w base spare held fuel t cs = some x) :
    ∃ (v : Value) (n : Nat) (E : Nat → List Value) (m : Nat) (Y : Nat → DataW H × List MemPlace), cs = [v] ∧ Reads w k v n ((List.range n).flatMap E) ∧ ∀ i, i < n → (E i).length = k ∧ DataW.trod enc P w base spare held m e (E i) = some (Y i) := by
  rcases open_slice ht h with ⟨rfl, _⟩ | ⟨a, len, cap, m, n, D, Pl, hcs, hb, hl, hm, hmm, hx, hi⟩
  · exact ⟨_, 0, fun _ => [], 0, fun _ => (.nil, []), rfl, by simpa using Reads.nil w k, fun i hi => by omega⟩
  · rw [hk] at hi
    have hlm : len ≤ m := by rw [hmm]; split <;> omega
    have hall : ∀ i, ∃ cs', i < m → w.cells? base (a.add (i * k)) k = some cs' ∧ DataW.trod enc P w base spare held n e cs' = some (D i, Pl i) := fun i => by
      by_cases h : i < m
      · obtain ⟨c, hc⟩ := hi i h
        exact ⟨c, fun _ => hc⟩
      · exact ⟨[], fun h' => absurd h' h⟩
    refine ⟨_, len, fun i => Classical.choose (hall i), n, fun i => (D i, Pl i), hcs, ?_, fun i hil => ?_⟩
    · have hsz : ∀ i, i < m → (Classical.choose (hall i)).length = k ∧ ∀ j, j < k → w.cell? ((a.add (i * k)).add j) = (Classical.choose (hall i))[j]? := fun i him => by
        obtain ⟨_, h2, h3⟩ := World.cells?_some (Classical.choose_spec (hall i) him).1
        exact ⟨h2, h3⟩
      have hlen : ∀ j, j ≤ m → ((List.range j).flatMap fun i => Classical.choose (hall i)).length = j * k := by
        intro j
        induction j with
        | zero => intro _; simp
        | succ j ih =>
          intro hj
          rw [List.range_succ, List.flatMap_append, List.length_append, ih (by omega)]
          simp [(hsz j (by omega)).1, Nat.succ_mul]
      have hget : ∀ j, j ≤ m → ∀ q u, ((List.range j).flatMap fun i => Classical.choose (hall i))[q]? = some u → w.cell? (a.add q) = some u := by
        intro j
        induction j with
        | zero => intro _ q u h; simp at h
        | succ j ih =>
          intro hj q u h
          rw [List.range_succ, List.flatMap_append, List.getElem?_append] at h
          rw [hlen j (by omega)] at h
          by_cases hq : q < j * k
          · rw [if_pos hq] at h
            exact ih (by omega) q u h
          · rw [if_neg hq] at h
            simp only [List.flatMap_cons, List.flatMap_nil, List.append_nil] at h
            have h2 := (hsz j (by omega)).2 (q - j * k) (by
              have := (hsz j (by omega)).1
              rcases Nat.lt_or_ge (q - j * k) k with h' | h'
              · exact h'
              · rw [List.getElem?_eq_none (by omega)] at h; cases h)
            rw [add_of_add, show j * k + (q - j * k) = q from by omega] at h2
            rw [h2, h]
      refine ⟨hlen len hlm, _, cap, rfl, hl, hm, fun hn => ?_⟩
      have hl0 := hlen len hlm
      obtain ⟨u0, hu0⟩ : ∃ u0, ((List.range len).flatMap fun i => Classical.choose (hall i))[0]? = some u0 := ⟨_, List.getElem?_eq_getElem (by rw [hl0]; exact Nat.mul_pos hn hk0)⟩
      have hc0 := hget len hlm 0 u0 hu0
      obtain ⟨b, off, spot⟩ := a
      have hspot : spot = none := by simpa [Addr.add] using World.cell?_spot hc0
      subst hspot
      refine ⟨b, off, rfl, fun j u hu => ?_⟩
      have := hget len hlm j u hu
      rwa [add_lit] at this
    · have h2 := Classical.choose_spec (hall i) (by omega)
      exact ⟨(World.cells?_some h2.1).2.1, h2.2⟩

theorem map_flat (k : IntKind) (l : List Int) : l.map (Value.int k) = l.flatMap fun z => [Value.int k z] := by
  induction l with
  | nil => rfl
  | cons a l ih => rw [List.map_cons, List.flatMap_cons, ← ih]; rfl
/-- A slice of integers. -/
theorem trod_reads_ints {t e : TypeId} {k : IntKind} {fuel : Nat} {cs : List Value} {x : DataW H × List MemPlace} (ht : P.underlying t = some (.slice e)) (he : P.underlying e = some (.int k)) (hk : P.cellsOf e = 1) (h : DataW.trod enc P w base spare held fuel t cs = some x) :
    ∃ (v : Value) (l : List Int), cs = [v] ∧ Reads w 1 v l.length (l.map (Value.int k)) ∧ ∀ z ∈ l, (Lit.int k z).wf = true := by
  obtain ⟨v, n, E, m, Y, rfl, hr, hE⟩ := trod_reads ht hk (by omega) h
  obtain ⟨l, rfl, h2, h3⟩ := reads_list (R := fun z => (Lit.int k z).wf = true) (fun z => [Value.int k z]) fun i hi => by
    obtain ⟨z, hz, _, hw⟩ := DataW.trod_int he (hE i hi).2
    exact ⟨z, hz, hw⟩
  rw [h2] at hr
  refine ⟨v, l, rfl, ?_, h3⟩
  rw [map_flat]
  exact hr
def toByte (z : Int) : UInt8 := UInt8.ofNat z.toNat
theorem toByte_v {z : Int} (h : (Lit.int .u8 z).wf = true) : Value.int .u8 z = u8v (toByte z) := by
  have := bounds_u8 h
  have e : ((toByte z).toNat : Int) = z := by
    unfold toByte
    rw [UInt8.toNat_ofNat']
    omega
  show Value.int .u8 z = Value.int .u8 ((toByte z).toNat : Int)
  rw [e]
/-- A slice of bytes. -/
theorem trod_bytes {t e : TypeId} {fuel : Nat} {cs : List Value} {x : DataW H × List MemPlace} (ht : P.underlying t = some (.slice e)) (he : P.underlying e = some (.int .u8)) (hk : P.cellsOf e = 1) (h : DataW.trod enc P w base spare held fuel t cs = some x) :
    ∃ (v : Value) (l : List UInt8), cs = [v] ∧ Reads w 1 v l.length (l.map u8v) := by
  obtain ⟨v, l, rfl, hr, hw⟩ := trod_reads_ints ht he hk h
  refine ⟨v, l.map toByte, rfl, ?_⟩
  rw [List.length_map, List.map_map, show l.map (u8v ∘ toByte) = l.map (Value.int .u8) from List.map_congr_left fun z hz => (toByte_v (hw z hz)).symm]
  exact hr
theorem flat_single {α : Type} (f : α → Value) (l : List α) : l.flatMap (fun a => [f a]) = l.map f := by
  induction l with
  | nil => rfl
  | cons a l ih => rw [List.map_cons, List.flatMap_cons, ← ih]; rfl
/-- A slice of slices of bytes. -/
theorem trod_parts {t s e : TypeId} {fuel : Nat} {cs : List Value} {x : DataW H × List MemPlace} (ht : P.underlying t = some (.slice s)) (hs : P.underlying s = some (.slice e)) (he : P.underlying e = some (.int .u8)) (hks : P.cellsOf s = 1) (hke : P.cellsOf e = 1) (h : DataW.trod enc P w base spare held fuel t cs = some x) :
    ∃ (v : Value) (ps : List (List UInt8)), cs = [v] ∧ Parts w v ps := by
  obtain ⟨v, n, E, m, Y, rfl, hr, hE⟩ := trod_reads ht hks (by omega) h
  obtain ⟨l, hl, h2, h3⟩ := reads_list (R := fun a : Value × List UInt8 => Reads w 1 a.1 a.2.length (a.2.map u8v)) (fun a => [a.1]) fun i hi => by
    obtain ⟨v, l, hv, hl⟩ := trod_bytes hs he hke (hE i hi).2
    exact ⟨(v, l), hv, hl⟩
  rw [h2, flat_single] at hr
  refine ⟨v, l.map (·.2), rfl, l.map (·.1), by simp, ?_, fun i p hp => ?_⟩
  · rw [List.length_map, hl]; exact hr
  · rw [List.getElem?_map] at hp
    obtain ⟨a, ha, rfl⟩ := Option.map_eq_some_iff.1 hp
    exact ⟨a.1, by rw [List.getElem?_map, ha]; rfl, h3 a (List.mem_of_getElem? ha)⟩
end

end Go.Proofs.YtgndblhpfjkfhaaDoor

/-
  Opening arguments: arrays of bytes, boxes.
-/
namespace Go.Proofs.YtgndblhpfjkfhaaDoor
open Go.ChangeShapes Go.WideShapes Go.ChangeAt Go.RowKit Go.Joins Go.Deep

section
variable {H : Type} {enc : TypeId × Value → H} {P : Program} {w : World} {base : Nat} {spare : Nat → Bool} {held : Bool}
theorem bytes_of_cells (cs : List Value) (h : ∀ c ∈ cs, ∃ b : UInt8, c = u8v b) : ∃ l : List UInt8, cs = l.map u8v := by
  induction cs with
  | nil => exact ⟨[], rfl⟩
  | cons c cs ih =>
    obtain ⟨l, hl⟩ := ih fun x hx => h x (List.mem_cons_of_mem _ hx)
    obtain ⟨b, hb⟩ := h c (List.mem_cons_self ..)
    exact ⟨b :: l, by rw [hb, hl]; rfl⟩
theorem trod_bytesArr {t e : TypeId} {n fuel : Nat} {cs : List Value} {x : DataW H × List MemPlace} (ht : P.underlying t = some (.array n e)) (he : P.underlying e = some (.int .u8)) (hk : P.cellsOf e = 1) (hn : P.cellsOf t = n) (h : DataW.trod enc P w base spare held fuel t cs = some x) :
    ∃ l : List UInt8, l.length = n ∧ cs = l.map u8v := by
  obtain ⟨xs, m, _, _, hl, hxl, hf⟩ := DataW.trod_array ht h
  rw [hn] at hl
  rw [hk] at hf
  obtain ⟨l, hl2⟩ := bytes_of_cells cs fun c hc => by
    obtain ⟨i, hi, hci⟩ := List.getElem_of_mem hc
    have h1 := hf i (by omega)
    rw [Nat.mul_one, List.drop_eq_getElem_cons hi, List.take_succ_cons, List.take_zero, List.getElem?_eq_getElem (by omega)] at h1
    obtain ⟨z, hz, _, hw⟩ := DataW.trod_int he h1
    cases hz2 : cs[i]
    all_goals rw [hz2] at hz
    all_goals (cases hz)
    exact ⟨toByte z, by rw [← hci, hz2]; exact toByte_v hw⟩
  exact ⟨l, by rw [hl2] at hl; simpa using hl, hl2⟩
theorem okWide_array {r : Reach} {b0 : Nat} {t e : TypeId} {n : Nat} {v : Value} (ht : P.underlying t = some (.array n e)) (h : Value.okWide P w r b0 t v) : ∃ cs, v = .agg cs ∧ cs.size = P.cellsOf t := by
  simp only [Value.okWide, ht] at h
  obtain ⟨cs, h1, h2, _⟩ := h
  exact ⟨cs, h1, h2⟩
end
set_option maxRecDepth 100000 in
theorem open_digest {H : Type} {enc : TypeId × Value → H} {v : Value} {d : DataW H} {p : List MemPlace} {W : World} {base : Nat} (hv : Value.okWide Tryd.prog W .any base 23 v)
    (h : DataW.Trod enc Tryd.prog W 0 (fun _ => true) true 23 v d p) : ∃ l : List UInt8, l.length = 16 ∧ v = .agg (l.map u8v).toArray := by
  obtain ⟨cs, rfl, _⟩ := okWide_array Tryd.underlying23 hv
  obtain ⟨m, h⟩ := h
  obtain ⟨l, h1, h2⟩ := trod_bytesArr Tryd.underlying23 Tryd.underlying5 (by kernel_rfl) (by kernel_rfl) h
  refine ⟨l, h1, ?_⟩
  have : cs.toList = l.map u8v := h2
  rw [← this, Array.toArray_toList]

end Go.Proofs.YtgndblhpfjkfhaaDoor

/-
  Opening arguments: a box.
-/
namespace Go.Proofs.YtgndblhpfjkfhaaDoor
open Go.ChangeShapes Go.WideShapes Go.ChangeAt Go.RowKit Go.Joins Go.Deep

set_option maxRecDepth 100000 in
theorem open_box {H : Type} {enc : TypeId × Value → H} {v : Value} {d : DataW H} {p : List MemPlace} {W : World} {base : Nat} (hv : Value.okWide Tryd.prog W .any base 27 v)
    (h : DataW.Trod enc Tryd.prog W 0 (fun _ => true) true 27 v d p) : ∃ (n : Int) (c : ByteArray) (t : List UInt8), t.length = 16 ∧ v = .agg (boxV n c t) ∧ -9223372036854775808 ≤ n ∧ n ≤ 9223372036854775807 ∧ c.size ≤ maxLen := by
  obtain ⟨cs, rfl, _⟩ := okWide_struct Tryd.underlying27 hv
  obtain ⟨m, h⟩ := h
  have h' : DataW.trod enc Tryd.prog W 0 (fun _ => true) true m 27 cs.toList = some (d, p) := h
  obtain ⟨xs, n', _, _, hlen, hxl, hf⟩ := DataW.trod_struct Tryd.underlying27 h'
  have k0 : Tryd.prog.cellsOf 3 = 1 := by kernel_rfl
  have k1 : Tryd.prog.cellsOf 9 = 1 := by kernel_rfl
  have k2 : Tryd.prog.cellsOf 23 = 16 := by kernel_rfl
  have k3 : Tryd.prog.cellsOf 27 = 18 := by kernel_rfl
  rw [k3] at hlen
  have g0 := hf 0 _ rfl
  have g1 := hf 1 _ rfl
  have g2 := hf 2 _ rfl
  simp only [List.getElem_toArray, List.getElem_cons_zero, List.getElem_cons_succ] at g0 g1 g2
  rw [k0] at g0
  rw [k1] at g1
  rw [k2] at g2
  match hL : cs.toList, hlen with
  | a :: b :: l, hlen =>
    rw [hL] at g0 g1 g2
    have hl : l.length = 16 := by simpa using hlen
    have hxl3 : xs.length = 3 := hxl
    obtain ⟨y0, y1, y2, rfl⟩ : ∃ y0 y1 y2, xs = [y0, y1, y2] := by
      match xs, hxl3 with
      | [y0, y1, y2], _ => exact ⟨y0, y1, y2, rfl⟩
    have e0 : ((a :: b :: l).drop 0).take 1 = [a] := rfl
    have e1 : ((a :: b :: l).drop 1).take 1 = [b] := rfl
    have e2 : ((a :: b :: l).drop 2).take 16 = l := List.take_of_length_le (by simp [hl])
    rw [e0] at g0
    rw [e1] at g1
    rw [e2] at g2
    obtain ⟨z, hz, _, hw⟩ := DataW.trod_int Tryd.underlying3 g0
    obtain ⟨s, hs, _, hsz⟩ := DataW.trod_string Tryd.underlying9 g1
    obtain ⟨t, ht, htl⟩ := trod_bytesArr Tryd.underlying23 Tryd.underlying5 (by kernel_rfl) (by kernel_rfl) g2
    cases hz
    cases hs
    subst htl
    have hw' := bounds_i64 hw
    refine ⟨z, s, t, ht, ?_, hw'.1, hw'.2, hsz⟩
    unfold boxV
    rw [← hL, Array.toArray_toList]

end Go.Proofs.YtgndblhpfjkfhaaDoor

/-
  Opening arguments: structs part by part.
-/
namespace Go.Proofs.YtgndblhpfjkfhaaDoor
open Go.ChangeShapes Go.WideShapes Go.ChangeAt Go.RowKit Go.Joins Go.Deep

def splitBy : List Nat → List Value → List (List Value)
  | [], _ => []
  | n :: ns, cs => cs.take n :: splitBy ns (cs.drop n)
def offsOf : Nat → List Nat → List (Nat × Nat)
  | _, [] => []
  | o, n :: ns => (o, n) :: offsOf (o + n) ns
theorem splitBy_flatten : ∀ (ns : List Nat) (cs : List Value), cs.length = ns.sum → (splitBy ns cs).flatten = cs
  | [], cs, h => by simpa [splitBy] using (List.eq_nil_of_length_eq_zero (by simpa using h)).symm
  | n :: ns, cs, h => by
    rw [List.sum_cons] at h
    rw [splitBy, List.flatten_cons, splitBy_flatten ns (cs.drop n) (by rw [List.length_drop]; omega), List.take_append_drop]
theorem splitBy_get : ∀ (ns : List Nat) (cs : List Value) (i o n : Nat) (o0 : Nat), (offsOf o0 ns)[i]? = some (o0 + o, n) → (splitBy ns cs).getD i [] = (cs.drop o).take n
  | [], cs, i, o, n, o0, h => by simp [offsOf] at h
  | m :: ns, cs, 0, o, n, o0, h => by
    simp only [offsOf, List.getElem?_cons_zero, Option.some.injEq, Prod.mk.injEq] at h
    obtain ⟨h1, h2⟩ := h
    obtain rfl : o = 0 := by omega
    subst h2
    rfl
  | m :: ns, cs, i + 1, o, n, o0, h => by
    simp only [offsOf, List.getElem?_cons_succ] at h
    have ho : m ≤ o := by
      have : ∀ (ns : List Nat) (a i o n : Nat), (offsOf a ns)[i]? = some (o, n) → a ≤ o := by
        intro ns
        induction ns with
        | nil => intro a i o n h; simp [offsOf] at h
        | cons k ns ih =>
          intro a i o n h
          cases i with
          | zero => simp only [offsOf, List.getElem?_cons_zero, Option.some.injEq, Prod.mk.injEq] at h; omega
          | succ i => simp only [offsOf, List.getElem?_cons_succ] at h; have := ih _ _ _ _ h; omega
      have := this _ _ _ _ _ h
      omega
    have := splitBy_get ns (cs.drop m) i (o - m) n (o0 + m) (by rw [show o0 + m + (o - m) = o0 + o from by omega]; exact h)
    show (splitBy ns (cs.drop m)).getD i [] = _
    rw [this, List.drop_drop, show m + (o - m) = o from by omega]
theorem trod_split {H : Type} {enc : TypeId × Value → H} {P : Program} {w : World} {base : Nat} {spare : Nat → Bool} {held : Bool} {t : TypeId} {fs : Array Field} {ns : List Nat} {fuel : Nat} {cs : List Value} {x : DataW H × List MemPlace} (ht : P.underlying t = some (.struct fs))
    (hfs : fs.toList.map (fun f => (f.offset, P.cellsOf f.type)) = offsOf 0 ns) (hc : P.cellsOf t = ns.sum) (h : DataW.trod enc P w base spare held fuel t cs = some x) :
    (splitBy ns cs).flatten = cs ∧ ∀ i f, fs[i]? = some f → ∃ m y, DataW.trod enc P w base spare held m f.type ((splitBy ns cs).getD i []) = some y := by
  obtain ⟨xs, n', _, _, hlen, hxl, hf⟩ := DataW.trod_struct ht h
  refine ⟨splitBy_flatten ns cs (by rw [hlen, hc]), fun i f hi => ?_⟩
  have h1 := hf i f hi
  have hil : i < xs.length := by
    rw [hxl]
    exact (Array.getElem?_eq_some_iff.1 hi).1
  have h2 : (offsOf 0 ns)[i]? = some (0 + f.offset, P.cellsOf f.type) := by
    rw [← hfs, List.getElem?_map, Array.getElem?_toList, hi, Nat.zero_add]
    rfl
  rw [splitBy_get ns cs i f.offset _ 0 h2]
  exact ⟨n', xs[i], by rw [h1, List.getElem?_eq_getElem hil]⟩
theorem open_parts {H : Type} {enc : TypeId × Value → H} {P : Program} {v : Value} {d : DataW H} {p : List MemPlace} {W : World} {base : Nat} {t : TypeId} {fs : Array Field} {ns : List Nat} (ht : P.underlying t = some (.struct fs))
    (hfs : fs.toList.map (fun f => (f.offset, P.cellsOf f.type)) = offsOf 0 ns) (hc : P.cellsOf t = ns.sum) (hv : Value.okWide P W .any base t v) (h : DataW.Trod enc P W 0 (fun _ => true) true t v d p) :
    ∃ cs : List Value, v = .agg cs.toArray ∧ (splitBy ns cs).flatten = cs ∧ ∀ i f, fs[i]? = some f → ∃ m y, DataW.trod enc P W 0 (fun _ => true) true m f.type ((splitBy ns cs).getD i []) = some y := by
  obtain ⟨cs, rfl, _⟩ := okWide_struct ht hv
  obtain ⟨m, h⟩ := h
  have h' : DataW.trod enc P W 0 (fun _ => true) true m t cs.toList = some (d, p) := h
  have := trod_split ht hfs hc h'
  exact ⟨cs.toList, by rw [Array.toArray_toList], this.1, this.2⟩

end Go.Proofs.YtgndblhpfjkfhaaDoor

/-
  Opening the arguments of laws: rows of boxes, of integers, of strings, of digests.
-/
namespace Go.Proofs.YtgndblhpfjkfhaaDoor.Pv
open Go.ChangeShapes Go.WideShapes Go.ChangeAt Go.RowKit Go.Joins Go.Deep

def strF (l : List ByteArray) : Nat → List PC := fun i => [.lit (.string (l.getD i { data := #[] }))]
def strOfPC : List PC → ByteArray
  | [.lit (.string c)] => c
  | _ => { data := #[] }
def isStr : List PC → Bool
  | [.lit (.string _)] => true
  | _ => false
def rowStr (n : Nat) (f : Nat → List PC) : List ByteArray := (List.range n).map fun i => strOfPC (f i)
def IsStrRow (n : Nat) (f : Nat → List PC) : Prop := ∀ i, i < n → isStr (f i) = true
theorem isStr_ok {l : List PC} (h : isStr l = true) : l = [.lit (.string (strOfPC l))] := by
  unfold isStr at h
  split at h
  · rfl
  · cases h
@[simp] theorem rowStr_length (n : Nat) (f : Nat → List PC) : (rowStr n f).length = n := by simp [rowStr]
theorem strF_row {n : Nat} {f : Nat → List PC} (h : IsStrRow n f) : ∀ i, i < n → f i = strF (rowStr n f) i := fun i hi => by
  unfold strF rowStr
  rw [List.getD_eq_getElem?_getD, List.getElem?_map, List.getElem?_range hi]
  exact isStr_ok (h i hi)
@[simp] theorem isStrRow_strF (n : Nat) (l : List ByteArray) : IsStrRow n (strF l) := fun _ _ => rfl
@[simp] theorem rowStr_strF (l : List ByteArray) : rowStr l.length (strF l) = l := by
  apply List.ext_getElem (by simp)
  intro i h1 h2
  simp only [rowStr, List.getElem_map, List.getElem_range, strF, strOfPC]
  rw [List.getD_eq_getElem?_getD, List.getElem?_eq_getElem h2]
  rfl
theorem flat_win {α : Type} (g : α → List Value) (n : Nat) : ∀ (l : List α), (∀ a ∈ l, (g a).length = n) → ∀ (i : Nat) (hi : i < l.length), ((l.flatMap g).drop (i * n)).take n = g l[i]
  | [], _, i, hi => by simp at hi
  | a :: l, h, 0, hi => by
    rw [Nat.zero_mul, List.drop_zero, List.flatMap_cons, List.take_append_of_le_length (by rw [h a List.mem_cons_self]; omega), List.take_of_length_le (by rw [h a List.mem_cons_self]; omega)]
    rfl
  | a :: l, h, i + 1, hi => by
    have hi' : i < l.length := by simpa using hi
    rw [List.flatMap_cons, show (i + 1) * n = (g a).length + i * n by rw [h a List.mem_cons_self, Nat.succ_mul, Nat.add_comm], ← List.drop_drop, List.drop_left, flat_win g n l (fun b hb => h b (List.mem_cons_of_mem _ hb)) i hi']
    rfl
def argX (w : World) : Ctx := { w := w, ok := fun _ => True, env := fun _ => none }
theorem rsl_of {α : Type} {w : World} {v : Value} {n : Nat} {l : List α} {g : α → List Value} {f : Nat → List PC} (hn : 0 < n) (hg : ∀ a ∈ l, (g a).length = n) (hr : Reads w n v l.length (l.flatMap g)) (hc : ∀ (C : Ctx) (i : Nat) (hi : i < l.length), RL C (f i) (g l[i])) : R (argX w) (.sl n l.length f) [v] :=
  .sl hr (fun b hb hlt => ⟨trivial, hr.own_lt hn hlt b hb⟩) (fun i hi => by rw [flat_win g n l hg i hi]; exact hc _ i hi)
def boxCells (b : BoxS) : List Value := [.int .i64 b.nonce] ++ ([.string b.cipher] ++ (b.tag.map u8v ++ []))
section
variable {H : Type} {enc : TypeId × Value → H} {w : World} {base : Nat} {spare : Nat → Bool} {held : Bool}
theorem trod_boxS {fuel : Nat} {cs : List Value} {x : DataW H × List MemPlace} (h : DataW.trod enc Tryd.prog w base spare held fuel 27 cs = some x) : ∃ b : BoxS, cs = boxCells b ∧ (i64P b.nonce ∧ b.tag.length = 16) := by
  obtain ⟨hfl, hf⟩ := trod_split (ns := [1, 1, 16]) Tryd.underlying27 (by kernel_rfl) (by kernel_rfl) h
  obtain ⟨m0, y0, t0⟩ := hf 0 _ rfl
  obtain ⟨m1, y1, t1⟩ := hf 1 _ rfl
  obtain ⟨m2, y2, t2⟩ := hf 2 _ rfl
  have hcs : cs = (splitBy [1, 1, 16] cs).getD 0 [] ++ ((splitBy [1, 1, 16] cs).getD 1 [] ++ ((splitBy [1, 1, 16] cs).getD 2 [] ++ [])) := hfl.symm
  obtain ⟨z, e0, _, hw⟩ := DataW.trod_int Tryd.underlying3 t0
  obtain ⟨s, e1, _, _⟩ := DataW.trod_string Tryd.underlying9 t1
  obtain ⟨l, hl, e2⟩ := trod_bytesArr Tryd.underlying23 Tryd.underlying5 (by kernel_rfl) (by kernel_rfl) t2
  rw [e0, e1, e2] at hcs
  have hb := bounds_i64 hw
  exact ⟨⟨z, s, l⟩, hcs, ⟨hb.1, by have := hb.2; show z < _; omega⟩, hl⟩
theorem trod_boxes {fuel : Nat} {cs : List Value} {x : DataW H × List MemPlace} (h : DataW.trod enc Tryd.prog w base spare held fuel 39 cs = some x) : ∃ (v : Value) (l : List BoxS), cs = [v] ∧ R (argX w) (.sl 18 l.length (boxF l)) [v] ∧ ∀ b ∈ l, i64P b.nonce ∧ b.tag.length = 16 := by
  obtain ⟨v, n, E, m, Y, rfl, hr, hE⟩ := trod_reads (k := 18) Tryd.underlying39 (by kernel_rfl) (by omega) h
  obtain ⟨l, hl, h2, h3⟩ := reads_list (R := fun b : BoxS => i64P b.nonce ∧ b.tag.length = 16) boxCells fun i hi => trod_boxS (hE i hi).2
  refine ⟨v, l, rfl, ?_, h3⟩
  rw [h2, ← hl] at hr
  refine rsl_of (g := boxCells) (by omega) (fun b hb => by simp [boxCells, (h3 b hb).2]) hr (fun C i hi => ?_)
  unfold boxF
  rw [List.getD_eq_getElem?_getD, List.getElem?_eq_getElem hi]
  exact .cons (.lit rfl) (.cons (.lit rfl) (.cons (.bs (h3 _ (List.getElem_mem hi)).2) .nil))
theorem trod_ints {fuel : Nat} {cs : List Value} {x : DataW H × List MemPlace} (h : DataW.trod enc Tryd.prog w base spare held fuel 145 cs = some x) : ∃ (v : Value) (l : List Int), cs = [v] ∧ R (argX w) (.sl 1 l.length (intF l)) [v] ∧ ∀ c ∈ l, i64P c := by
  obtain ⟨v, n, E, m, Y, rfl, hr, hE⟩ := trod_reads (k := 1) Tryd.underlying145 (by kernel_rfl) (by omega) h
  obtain ⟨l, hl, h2, h3⟩ := reads_list (R := i64P) (fun z : Int => [Value.int .i64 z]) fun i hi => by
    obtain ⟨z, e0, _, hw⟩ := DataW.trod_int Tryd.underlying3 (hE i hi).2
    have hb := bounds_i64 hw
    exact ⟨z, e0, hb.1, by have := hb.2; omega⟩
  refine ⟨v, l, rfl, ?_, h3⟩
  rw [h2, ← hl] at hr
  refine rsl_of (g := fun z : Int => [Value.int .i64 z]) (by omega) (fun b hb => rfl) hr (fun C i hi => ?_)
  unfold intF
  rw [List.getD_eq_getElem?_getD, List.getElem?_eq_getElem hi]
  exact .cons (.lit rfl) .nil
theorem trod_strs {fuel : Nat} {cs : List Value} {x : DataW H × List MemPlace} (h : DataW.trod enc Tryd.prog w base spare held fuel 77 cs = some x) : ∃ (v : Value) (l : List ByteArray), cs = [v] ∧ R (argX w) (.sl 1 l.length (strF l)) [v] := by
  obtain ⟨v, n, E, m, Y, rfl, hr, hE⟩ := trod_reads (k := 1) Tryd.underlying77 (by kernel_rfl) (by omega) h
  obtain ⟨l, hl, h2, h3⟩ := reads_list (R := fun _ => True) (fun z : ByteArray => [Value.string z]) fun i hi => by
    obtain ⟨s, e0, _, _⟩ := DataW.trod_string Tryd.underlying9 (hE i hi).2
    exact ⟨s, e0, trivial⟩
  refine ⟨v, l, rfl, ?_⟩
  rw [h2, ← hl] at hr
  refine rsl_of (g := fun z : ByteArray => [Value.string z]) (by omega) (fun b hb => rfl) hr (fun C i hi => ?_)
  unfold strF
  rw [List.getD_eq_getElem?_getD, List.getElem?_eq_getElem hi]
  exact .cons (.lit rfl) .nil
end
section
variable {H : Type} {enc : TypeId × Value → H} {w : World} {base : Nat} {spare : Nat → Bool} {held : Bool}
def digCells (l : List UInt8) : List Value := l.map u8v
theorem trod_digs {fuel : Nat} {cs : List Value} {x : DataW H × List MemPlace} (h : DataW.trod enc Tryd.prog w base spare held fuel 38 cs = some x) : ∃ (v : Value) (l : List (List UInt8)), cs = [v] ∧ R (argX w) (.sl 16 l.length (digF l)) [v] ∧ ∀ d ∈ l, d.length = 16 := by
  obtain ⟨v, n, E, m, Y, rfl, hr, hE⟩ := trod_reads (k := 16) Tryd.underlying38 (by kernel_rfl) (by omega) h
  obtain ⟨l, hl, h2, h3⟩ := reads_list (R := fun d : List UInt8 => d.length = 16) digCells fun i hi => by
    obtain ⟨l, hl, e2⟩ := trod_bytesArr Tryd.underlying23 Tryd.underlying5 (by kernel_rfl) (by kernel_rfl) (hE i hi).2
    exact ⟨l, e2, hl⟩
  refine ⟨v, l, rfl, ?_, h3⟩
  rw [h2, ← hl] at hr
  refine rsl_of (g := digCells) (by omega) (fun b hb => by simp [digCells, h3 b hb]) hr (fun C i hi => ?_)
  unfold digF
  rw [List.getD_eq_getElem?_getD, List.getElem?_eq_getElem hi]
  have := RL.cons (C := C) (R.bs (n := 16) (h3 _ (List.getElem_mem hi))) RL.nil
  rw [List.append_nil] at this
  exact this
theorem sl_len {C : Ctx} {n len : Nat} {f : Nat → List PC} {xs : List Value} (h : R C (.sl n len f) xs) : len < 9223372036854775808 := by
  cases h with
  | sl hr _ _ => have := hr.len_le; unfold maxLen at this; omega
end
section
variable {H : Type} {enc : TypeId × Value → H} {v : Value} {d : DataW H} {p : List MemPlace} {W : World} {base : Nat}
set_option maxRecDepth 100000 in
theorem open_digRow (hv : Value.okWide Tryd.prog W .any base 38 v) (h : DataW.Trod enc Tryd.prog W 0 (fun _ => true) true 38 v d p) :
    ∃ l : List (List UInt8), RV (argX W) (pv1 (.sl 16 l.length (digF l))) v ∧ (∀ d ∈ l, d.length = 16) ∧ l.length < 9223372036854775808 := by
  obtain ⟨A2, len2, cap2, rfl⟩ := okWide_slice Tryd.underlying38 hv
  obtain ⟨m2, h⟩ := h
  obtain ⟨v, l, hl, hp, hb⟩ := trod_digs h
  simp [Value.cells] at hl
  subst hl
  exact ⟨l, .w (.one hp), hb, sl_len hp⟩
set_option maxRecDepth 100000 in
theorem open_strs (hv : Value.okWide Tryd.prog W .any base 77 v) (h : DataW.Trod enc Tryd.prog W 0 (fun _ => true) true 77 v d p) :
    ∃ l : List ByteArray, RV (argX W) (pv1 (.sl 1 l.length (strF l))) v := by
  obtain ⟨A2, len2, cap2, rfl⟩ := okWide_slice Tryd.underlying77 hv
  obtain ⟨m2, h⟩ := h
  obtain ⟨v, l, hl, hp⟩ := trod_strs h
  simp [Value.cells] at hl
  subst hl
  exact ⟨l, .w (.one hp)⟩
/-- What a law's contract says of its call. -/
theorem FunOk.law {P : Program} {I : World → Prop} {f : Nat} {new : Bool} {args : List PV} (h : FunOk P I f new args (pvB true)) {vs : List Value} (hI : I W) (hv : Vals (argX W) args vs) : Calls P f vs.toArray W fun e W' => e = .returned (.bool true) ∧ Ext W W' := by
  refine (h W (fun _ => True) vs hI hv).mono ?_
  rintro e w' ⟨val, rfl, hE, hr⟩
  exact ⟨congrArg Ending.returned hr.lit_inv, hE⟩
theorem rv_digest {C : Ctx} {l : List UInt8} (h : l.length = 16) : RV C (.w (.agg [.bs 16 l])) (.agg (l.map u8v).toArray) := rv_of_dig h
end


end Go.Proofs.YtgndblhpfjkfhaaDoor.Pv
