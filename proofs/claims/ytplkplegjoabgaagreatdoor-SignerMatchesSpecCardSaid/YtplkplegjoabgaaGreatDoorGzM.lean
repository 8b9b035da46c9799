/-
  Several texts in one file: each has its own heading below.
-/
import Derived.Test.YtplkplegjoabgaaGreatDoorGzI
import Derived.Test.YtplkplegjoabgaaGreatDoorGzL
import Derived.WalkMore
import Derived.Test.YtplkplegjoabgaaGreatDoorGzE
import Derived.Test.YtplkplegjoabgaaGreatDoorProg


namespace Go.Proofs.YtplkplegjoabgaaGreatDoor
open Go.RowKit
def Prg.sign (h : Nat) : Prg (Nat × Int) := (Prg.levelOf 2 16).bind fun n => if 2 ^ h ≤ n then .ret (n, 17) else (Prg.raiseTo 2 16 (n + 1)).bind fun p => .ret (n, p.2)
def Prg.signI (h : Int) : Prg (Nat × Int) := if 0 ≤ h ∧ h ≤ 4 then Prg.sign h.toNat else .ret (0, 1)
end Go.Proofs.YtplkplegjoabgaaGreatDoor
namespace Go.Proofs.YtplkplegjoabgaaGreatDoor.Pv
open Go.RowKit
def sgO (seed : List UInt8) (h : Int) (m : List UInt8) (p : Nat × Int) : Sig × Int := if p.2 = 0 then sgnT seed h p.1 m else (⟨0, [], []⟩, p.2)
def sgPair (x : Sig × Int) : PV := .tup [.agg (sigPC x.1), .one (.lit (.int .i64 x.2))]
def sgOut (x : Sig × Int) : PV := .w (.agg (sigPC x.1 ++ [.lit (.int .i64 x.2)]))
def sgL : List (Nat × Spec) := (106, prgSpec decRa) :: (107, funSpec true signG) :: raL
theorem sg_ok : ∀ p ∈ sgL, SpecOk Tryz.prog ShaMem p.1 p.2 := by
  intro p hp
  simp only [sgL, List.mem_cons] at hp
  rcases hp with rfl | rfl | hp
  · exact raiseTo_spec sha_ext
  · exact tsign_spec
  · exact ra_ok sha_ext p hp
theorem sgM : Mach Tryz.prog ShaMem (find sgL) := ⟨specs_of sg_ok, mixed_⟩
theorem raiseFrom_err (b : Int) : ∀ f n, Prg.All (fun p => p.2 = 0 ∨ p.2 = 12) (Prg.raiseFrom b f n)
  | 0, n => .inl rfl
  | f + 1, n => (Prg.All.triv (Prg.pulses b n)).bind fun _ _ => (Prg.All.triv (Prg.read b n)).bind fun x _ => by
    cases x with
    | true => exact raiseFrom_err b f (n + 1)
    | false => exact .inr rfl
theorem raiseTo_err (b : Int) (m t : Nat) : Prg.All (fun p => p.2 = 0 ∨ p.2 = 12) (Prg.raiseTo b m t) := (Prg.All.triv (Prg.levelOf b m)).bind fun _ _ => raiseFrom_err b _ _
theorem shl16 {h : Nat} (hh : h ≤ 4) : IntKind.i64.wrap (1 * 2 ^ (min ((h : Int).toNat) IntKind.i64.bits)) = ((2 ^ h : Nat) : Int) := by
  match h, hh with
  | 0, _ => rfl
  | 1, _ => rfl
  | 2, _ => rfl
  | 3, _ => rfl
  | 4, _ => rfl
def sgSt (O : List Acc → Option Res) (stp : List Acc → Prop) (seed m : List UInt8) (h : Nat) (s : List PC) (n : Nat) (e : Int) (lk : List Acc) : St :=
  ⟨[(0, none, .w (.one .dv)), (2, none, pvI h), (5, none, pv1 (.pt 0 0 0)), (7, none, pv1 (.pt 1 0 0)), (8, none, pv1 (.pt 2 0 0)), (9, none, pvI e), (10, none, pvI n)],
  [(dx, none, 0, .dev O stp lk), (0, none, 0, .box 23 [.bs 16 seed]), (1, none, 0, .box 23 [.bs 16 m]), (2, none, 0, .box 32 s)]⟩
def noSig : List PC := [.lit (.int .i64 0), .lit (.slice none 0 0), .lit (.slice none 0 0)]
set_option maxRecDepth 100000 in
set_option maxHeartbeats 1000000 in
theorem signWith_fun (seed m : List UInt8) (h : Nat) (hh : h ≤ 4) : FunP Tryz.prog ShaMem 69 (Prg.sign h) [.w (.one .dv), .w (.agg [.bs 16 seed]), pvI h, .w (.agg [.bs 16 m])] (fun p => sgPair (sgO seed h m p)) := by
  intro O l
  have M := sgM
  refine funX_of Tryz.func69 rfl rfl rfl (fun A hn hI => ?_)
  generalize hstp : (fun g => l <+: g ∧ g <+: (go O (Prg.sign h) l).2) = stp
  have hL0 : Left O (Prg.sign h) l ((Prg.levelOf 2 16).bind fun n => if 2 ^ h ≤ n then .ret (n, 17) else (Prg.raiseTo 2 16 (n + 1)).bind fun p => .ret (n, p.2)) l := Left.start _ _ _
  have hn0 : (go O (Prg.levelOf 2 16) l).1 ≤ 16 := go_all O (levelOf_all 2 16) l
  have hL := hL0.step
  have hsh := shl16 hh
  refine tri_reg M hI hn (outs := ?_) (s' := ?_) ?_ ?_ ?_ ?_
  rotate_left 2
  · rfl
  · kernel_rfl
  · simp
  refine tri_scope ?_
  refine tri_seq ?_
  refine tri_label ?_
  change Tri _ _ _ _ _
  refine tri_seq ?_
  refine tri_reg M hI hn (outs := ?_) (s' := ?_) ?_ ?_ ?_ ?_
  rotate_left 2
  · rfl
  · kernel_rfl
  · simp
    refine fun g h1 h2 h3 => ?_
    rw [← hstp]
    exact hL0.stp g h1 h2 h3
  obtain ⟨n0, l0, hq⟩ : ∃ n0 l0, go O (Prg.levelOf 2 16) l = (n0, l0) := ⟨_, _, rfl⟩
  rw [hq] at hn0 hL
  dsimp only at hn0 hL
  refine tri_conv (s' := sgSt O stp seed m h noSig n0 0 l0) (fun a w hg => (hg.reset (kT := [0, 2, 5, 7, 8, 9, 10]) (kO := [900000, 0, 1, 2]) (by rfl) (by simp)).same ?_ ?_) ?_
  · exact .cons rfl (.cons rfl (.cons rfl (.cons rfl (.cons rfl (.cons rfl (.cons (by show pvI ((go O (Prg.levelOf 2 16) l).1 : Int) = _; rw [hq]) .nil))))))
  · exact .cons (.dev (by show (go O (Prg.levelOf 2 16) l).2 = _; rw [hq])) (.cons (.box rfl) (.cons (.box rfl) (.cons (.box rfl) .nil)))
  refine tri_block ?_
  refine tri_reg M hI hn (outs := ?_) (s' := ?_) ?_ ?_ ?_ ?_
  rotate_left 2
  · rfl
  · kernel_rfl
  · simp
  refine tri_cond (b := ?_) ?_ (fun hc => ?_) (fun hc => ?_)
  rotate_left 1
  · rfl
  · have hge : 2 ^ h ≤ n0 := by
      have := of_decide_eq_true hc
      rw [hsh] at this
      omega
    rw [if_pos hge] at hL
    have hE : go O (Prg.sign h) l = ((n0, 17), l0) := hL.2
    refine tri_reg M hI hn (outs := ?_) (s' := ?_) ?_ ?_ ?_ ?_
    rotate_left 2
    · rfl
    · kernel_rfl
    · simp
    refine tri_exit ?_
    change Tri _ _ _ _ _
    refine tri_reg M hI hn (outs := ?_) (s' := ?_) ?_ ?_ ?_ ?_
    rotate_left 2
    · rfl
    · kernel_rfl
    · simp
    refine tri_ret (fun a w hg => ⟨.inr rfl, _, ⟨?_, (fun o ho => by cases ho), fun p hp => ?_⟩, hg⟩)
    rotate_left 1
    · cases hp
      rw [hE]
      rfl
    refine retTo_ex (out := ?_) ?_ ?_ ?_ ?_
    rotate_left 1
    · rfl
    · simp
    · rfl
    · rw [hE]
      exact .tup (.cons (.agg (.cons (.cold rfl) (.cons .nil (.cons .nil .nil)))) (.cons (.one (.cold rfl)) .nil))
  · have hge : ¬ 2 ^ h ≤ n0 := by
      have := of_decide_eq_false hc
      rw [hsh] at this
      omega
    rw [if_neg hge] at hL
    have hL2 := hL.step
    have hw : (IntKind.i64.wrap ((n0 : Int) + 1)).toNat = n0 + 1 := by rw [wrap_nat n0 (by omega)]; exact Int.toNat_natCast _
    have hw2 : IntKind.i64.wrap ((n0 : Int) + 1) = ((n0 + 1 : Nat) : Int) := wrap_nat n0 (by omega)
    refine tri_seq ?_
    refine tri_reg M hI hn (outs := ?_) (s' := ?_) ?_ ?_ ?_ ?_
    rotate_left 2
    · rfl
    · kernel_rfl
    · simp
      rw [hw2]
      refine ⟨by omega, fun g h1 h2 h3 => ?_⟩
      rw [← hstp]
      exact hL.stp g h1 h2 h3
    have he1 : (go O (Prg.raiseTo 2 16 (n0 + 1)) l0).1.2 = 0 ∨ (go O (Prg.raiseTo 2 16 (n0 + 1)) l0).1.2 = 12 := go_all O (raiseTo_err 2 16 (n0 + 1)) l0
    obtain ⟨m1, e1, l1, hq1⟩ : ∃ m1 e1 l1, go O (Prg.raiseTo 2 16 (n0 + 1)) l0 = ((m1, e1), l1) := ⟨_, _, _, rfl⟩
    rw [hq1] at hL2 he1
    dsimp only at hL2 he1
    have hE : go O (Prg.sign h) l = ((n0, e1), l1) := hL2.2
    refine tri_conv (s' := sgSt O stp seed m h noSig n0 e1 l1) (fun a w hg => (hg.reset (kT := [0, 2, 5, 7, 8, 9, 10]) (kO := [900000, 0, 1, 2]) (by rfl) (by simp)).same ?_ ?_) ?_
    · exact .cons rfl (.cons rfl (.cons rfl (.cons rfl (.cons rfl (.cons (by show pvI ((go O (Prg.raiseTo 2 16 (IntKind.i64.wrap ((n0 : Int) + 1)).toNat) l0).1.2) = _; rw [hw, hq1]) (.cons rfl .nil))))))
    · exact .cons (.dev (by show (go O (Prg.raiseTo 2 16 (IntKind.i64.wrap ((n0 : Int) + 1)).toNat) l0).2 = _; rw [hw, hq1])) (.cons (.box rfl) (.cons (.box rfl) (.cons (.box rfl) .nil)))
    refine tri_reg M hI hn (outs := ?_) (s' := ?_) ?_ ?_ ?_ ?_
    rotate_left 2
    · rfl
    · kernel_rfl
    · simp
    refine tri_cond (b := ?_) ?_ (fun hc => ?_) (fun hc => ?_)
    rotate_left 1
    · rfl
    · have hne : ¬ e1 = 0 := by
        have h2 : (e1 != 0) = true := hc
        simpa using h2
      have hO : sgO seed h m (n0, e1) = (⟨0, [], []⟩, e1) := if_neg hne
      refine tri_exit ?_
      change Tri _ _ _ _ _
      refine tri_reg M hI hn (outs := ?_) (s' := ?_) ?_ ?_ ?_ ?_
      rotate_left 2
      · rfl
      · kernel_rfl
      · simp
      refine tri_ret (fun a w hg => ⟨.inr rfl, _, ⟨?_, (fun o ho => by cases ho), fun p hp => ?_⟩, hg⟩)
      rotate_left 1
      · cases hp
        rw [hE]
        rfl
      refine retTo_ex (out := ?_) ?_ ?_ ?_ ?_
      rotate_left 1
      · rfl
      · simp
      · rfl
      · rw [hE]
        show ExV _ _ _ (sgPair (sgO seed h m (n0, e1))); rw [hO]; exact .tup (.cons (.agg (.cons (.cold rfl) (.cons .nil (.cons .nil .nil)))) (.cons (.one (.cold rfl)) .nil))
    · have hz : e1 = 0 := by
        have h2 : (e1 != 0) = false := hc
        simpa using h2
      have hO : sgO seed h m (n0, e1) = sgnT seed h n0 m := if_pos hz
      refine tri_skip ?_
      change Tri _ _ _ _ _
      refine tri_region M hI hn (outs := ?_) (s' := ?_) ?_ ?_ ?_ ?_
      rotate_left 2
      · rfl
      · kernel_rfl
      · simp
      change Tri _ _ _ _ _
      obtain ⟨x, hx⟩ : ∃ x, sgnT seed h n0 m = x := ⟨_, rfl⟩
      rw [hx] at hO
      refine tri_conv (s' := sgSt O stp seed m h (sigPC x.1) n0 x.2 l1) (fun a w hg => (hg.reset (kT := [0, 2, 5, 7, 8, 9, 10]) (kO := [900000, 0, 1, 2]) (by rfl) (by simp)).same ?_ ?_) ?_
      · exact .cons rfl (.cons rfl (.cons rfl (.cons rfl (.cons rfl (.cons (by rw [← hx]) (.cons rfl .nil))))))
      · exact .cons (.dev rfl) (.cons (.box rfl) (.cons (.box rfl) (.cons (.box (by rw [← hx]; rfl)) .nil)))
      refine tri_reg M hI hn (outs := ?_) (s' := ?_) ?_ ?_ ?_ ?_
      rotate_left 2
      · rfl
      · kernel_rfl
      · simp
      refine tri_ret (fun a w hg => ⟨.inr rfl, _, ⟨?_, (fun o ho => by cases ho), fun p hp => ?_⟩, hg⟩)
      rotate_left 1
      · cases hp
        rw [hE]
        rfl
      refine retTo_ex (out := ?_) ?_ ?_ ?_ ?_
      rotate_left 1
      · rfl
      · simp
      · rfl
      · rw [hE]
        show ExV _ _ _ (sgPair (sgO seed h m (n0, e1))); rw [hO]; exact .tup (.cons (.agg (.cons (.cold rfl) (.cons (.cold rfl) (.cons (.cold rfl) .nil)))) (.cons (.one (.cold rfl)) .nil))
def decSg : List PV → Option (Prop × Prg (Nat × Int) × (Nat × Int → PV))
  | [.w (.agg [.bs 16 seed]), .w (.one (.lit (.int .i64 h))), .w (.agg [.bs 16 m])] => some (0 ≤ h ∧ h ≤ 4, Prg.sign h.toNat, fun p => sgPair (sgO seed h m p))
  | _ => none
theorem signWith_spec : SpecOk Tryz.prog ShaMem 69 (prgSpec decSg) :=
  prgSpec_ok (call_enters Tryz.func69 (by kernel_rfl) rfl) (fun ys c p v h hc => by
    unfold decSg at h
    split at h
    · rename_i seed b m
      cases h
      obtain ⟨k, rfl⟩ : ∃ k : Nat, b = (k : Int) := ⟨b.toNat, by omega⟩
      rw [Int.toNat_natCast]
      exact signWith_fun seed m k (by omega)
    · cases h)
end Go.Proofs.YtplkplegjoabgaaGreatDoor.Pv


namespace Go.Proofs.YtplkplegjoabgaaGreatDoor.Pv
open Go.RowKit
def s1L : List (Nat × Spec) := [(69, prgSpec decSg)]
theorem s1M : Mach Tryz.prog ShaMem (find s1L) := ⟨specs_of (fun p hp => by
  simp only [s1L, List.mem_cons, List.not_mem_nil, or_false] at hp
  subst hp
  exact signWith_spec), mixed_⟩
def sgObs (seed m : List UInt8) (h : Int) : List Ob := [⟨900001, 3, [.lit (.int .i64 h)], [.lit (.int .i64 h)]⟩, ⟨900002, 23, [.bs 16 seed], [.bs 16 seed]⟩, ⟨900003, 23, [.bs 16 m], [.bs 16 m]⟩]
set_option maxRecDepth 100000 in
set_option maxHeartbeats 1000000 in
theorem sign1_fun (seed m : List UInt8) (h : Int) (O : List Acc → Option Res) (l : List Acc) : FunX Tryz.prog ShaMem 68 false (sgObs seed m h) O (some (l, (go O (Prg.signI h) l).2)) (fun g => l <+: g ∧ g <+: (go O (Prg.signI h) l).2)
    [.w (.one .dv), pv1 (.pt 900001 0 0), pv1 (.pt 900002 0 0), pv1 (.pt 900003 0 0)] (sgOut (sgO seed h m (go O (Prg.signI h) l).1)) := by
  have M := s1M
  refine funX_of Tryz.func68 rfl rfl rfl (fun A hn hI => ?_)
  generalize hstp : (fun g => l <+: g ∧ g <+: (go O (Prg.signI h) l).2) = stp
  refine tri_reg M hI hn (outs := ?_) (s' := ?_) ?_ ?_ ?_ ?_
  rotate_left 2
  · rfl
  · kernel_rfl
  · simp
  refine tri_seq ?_
  refine tri_reg M hI hn (outs := ?_) (s' := ?_) ?_ ?_ ?_ ?_
  rotate_left 2
  · rfl
  · kernel_rfl
  · simp
  refine tri_cond (b := ?_) ?_ (fun hc => ?_) (fun hc => ?_)
  rotate_left 1
  · rfl
  · have hh : ¬ (0 ≤ h ∧ h ≤ 4) := by
      intro hh
      have hc' : (bif decide (h < 0) then true else decide (h > 4)) = true := hc
      rw [decide_eq_false (by omega), decide_eq_false (by omega)] at hc'
      cases hc'
    have hE : go O (Prg.signI h) l = ((0, 1), l) := by unfold Prg.signI; rw [if_neg hh]; rfl
    refine tri_reg M hI hn (outs := ?_) (s' := ?_) ?_ ?_ ?_ ?_
    rotate_left 2
    · rfl
    · kernel_rfl
    · simp
    refine tri_ret (fun a w hg => ⟨.inr rfl, _, ⟨?_, ?_, fun p hp => ?_⟩, hg⟩)
    rotate_left 1
    · intro o ho
      simp only [sgObs, List.mem_cons, List.not_mem_nil, or_false] at ho
      rcases ho with rfl | rfl | rfl <;> exact ⟨_, rfl, .cons (.cold rfl) .nil⟩
    · cases hp
      rw [hE]; rfl
    refine retTo_ex (out := ?_) ?_ ?_ ?_ ?_
    rotate_left 1
    · rfl
    · simp
    · rfl
    rw [hE]
    exact .w (.agg (.cons (.cold rfl) (.cons .nil (.cons .nil (.cons (.cold rfl) .nil)))))
  · have hh : 0 ≤ h ∧ h ≤ 4 := by
      have hc' : (bif decide (h < 0) then true else decide (h > 4)) = false := hc
      have h1 : ¬ h < 0 := fun hx => by rw [decide_eq_true hx] at hc'; cases hc'
      have h2 : ¬ h > 4 := fun hx => by rw [decide_eq_false h1, decide_eq_true hx] at hc'; cases hc'
      omega
    have hP : Prg.signI h = Prg.sign h.toNat := by unfold Prg.signI; rw [if_pos hh]
    rw [hP] at hstp ⊢
    refine tri_skip ?_
    change Tri _ _ _ _ _
    refine tri_reg M hI hn (outs := ?_) (s' := ?_) ?_ ?_ ?_ ?_
    rotate_left 2
    · rfl
    · kernel_rfl
    · simp
      refine ⟨hh, fun g h1 h2 _ => ?_⟩
      rw [← hstp]
      exact ⟨h1, h2⟩
    refine tri_reg M hI hn (outs := ?_) (s' := ?_) ?_ ?_ ?_ ?_
    rotate_left 2
    · rfl
    · kernel_rfl
    · simp
    refine tri_ret (fun a w hg => ⟨.inr rfl, _, ⟨?_, ?_, fun p hp => ?_⟩, hg⟩)
    rotate_left 1
    · intro o ho
      simp only [sgObs, List.mem_cons, List.not_mem_nil, or_false] at ho
      rcases ho with rfl | rfl | rfl <;> exact ⟨_, rfl, .cons (.cold rfl) .nil⟩
    · cases hp
      rfl
    refine retTo_ex (out := ?_) ?_ ?_ ?_ ?_
    rotate_left 1
    · rfl
    · simp
    · rfl
    exact .w (.agg (.cons (.cold rfl) (.cons (.cold rfl) (.cons (.cold rfl) (.cons (.cold rfl) .nil)))))
end Go.Proofs.YtplkplegjoabgaaGreatDoor.Pv


namespace Go.Proofs.YtplkplegjoabgaaGreatDoor
open Go.RowKit
structure RunInv (A L : Nat) (lv : Value) (log : List Res) (i : Nat) (X : Nat → Prop) (w : World) : Prop where
  at_ : w.heap[A]? = some (.cells #[.int .i64 (i : Int)] 3 (0, 0))
  logv : w.heap[L]? = some (.cells #[lv] 24 (0, 0))
  reads : Reads w 2 lv log.length (logCells log)
  ne : A ≠ L
  own : 0 < log.length → lv.ownBlock ≠ some A
  le : i ≤ log.length
  mine : ∀ k, X k → k < w.heap.size ∧ k ≠ A ∧ k ≠ L ∧ (0 < log.length → lv.ownBlock ≠ some k)
def pending (a : Acc) : Value := .iface 130 a.v
theorem RunInv.chg {A L : Nat} {lv : Value} {log : List Res} {i : Nat} {X : Nat → Prop} {w w' : World} (h : RunInv A L lv log i X w) (hc : Chg X w w') : RunInv A L lv log i X w' :=
  ⟨Chg.blk hc h.at_ (fun hx => (h.mine _ hx).2.1 rfl), Chg.blk hc h.logv (fun hx => (h.mine _ hx).2.2.1 rfl), h.reads.chg hc (fun _ hn hk hx => (h.mine _ hx).2.2.2 hn hk), h.ne, h.own, h.le,
    fun k hk => ⟨Nat.lt_of_lt_of_le (h.mine k hk).1 hc.size, (h.mine k hk).2⟩⟩
theorem RunInv.step {A L : Nat} {lv : Value} {log : List Res} {i : Nat} {X : Nat → Prop} {w : World} (h : RunInv A L lv log i X w) (hi : i < log.length) : RunInv A L lv log (i + 1) X (w.setCell ⟨A, 0, none⟩ (.int .i64 ((i : Int) + 1))) := by
  have hc : Chg (fun k => k = A) w (w.setCell ⟨A, 0, none⟩ (.int .i64 ((i : Int) + 1))) := Chg.setCell (S := fun k => k = A) (p := ⟨A, 0, none⟩) (Chg.refl _ _) (.inl rfl) _
  refine ⟨?_, Chg.blk hc h.logv (fun e => h.ne e.symm), h.reads.chg hc (fun k hn hk e => h.own hn (e ▸ hk)), h.ne, h.own, hi, fun k hk => ⟨Nat.lt_of_lt_of_le (h.mine k hk).1 hc.size, (h.mine k hk).2⟩⟩
  exact one_setCell h.at_
set_option maxHeartbeats 400000 in
theorem run_do (A L : Nat) (lv : Value) (log : List Res) (a : Acc) (i : Nat) (X : Nat → Prop) (w : World) (h : RunInv A L lv log i X w) (F : Nat) (hF : F = 66) :
    Calls Tryz.prog F (#[a.v] ++ #[.pointer (some ⟨A, 0, none⟩), .pointer (some ⟨L, 0, none⟩)]) w (StepPost (RunInv A L lv log) (fun k => k = A) X pending w Res.v (replay log a i)) := by
  subst hF
  have hA := cell_of_one h.at_
  have hfA := free_of_one h.at_
  have hL := cell_of_one h.logv
  have hAw := lt_of_heap h.at_
  have hLw := lt_of_heap h.logv
  have hne : ¬ L = A := fun e => h.ne e.symm
  have hmx := h.reads.len_le
  have HH := hide h
  obtain ⟨_, B, c, rfl, hnc, hcm, _⟩ := h.reads
  clear h
  unfold maxLen at hmx
  obtain ⟨ak, ab, ac, ax⟩ := a
  simp only [Acc.v]
  by_cases hlt : i < log.length
  · obtain ⟨b, o, c', u1, u2, hv, _, _, hb, hu1, hu2, hc1, hc2⟩ := (unhide HH).reads.at2 hlt
    cases hv
    have hbA : ¬ b = A := fun e => (unhide HH).own (by omega) (by rw [e]; rfl)
    rw [(logCells_get log i).1, List.getElem?_eq_getElem hlt] at hu1
    rw [(logCells_get log i).2, List.getElem?_eq_getElem hlt] at hu2
    cases hu1
    cases hu2
    have R : Hid (replay log ⟨ak, ab, ac, ax⟩ i = .ok log[i] (i + 1)) := hide (by unfold replay; rw [List.getElem?_eq_getElem hlt])
    generalize log[i] = r at *
    have hli : ¬ log.length ≤ i := by omega
    go_enter Tryz.func66, Tryz.ntmps66
    go_wp2
    go_returns
    have hs := (unhide HH).step hlt
    refine StepPost.ok (unhide R) rfl ?_ ?_
    · exact (hs.chg (Chg.alloc (Chg.refl _ _) _)).chg (Chg.alloc (Chg.refl _ _) _)
    · exact ((Chg.setCell (S := fun k => k = A) (p := ⟨A, 0, none⟩) (Chg.refl _ _) (.inl rfl) _).alloc _).alloc _
  · have R : Hid (replay log ⟨ak, ab, ac, ax⟩ i = .error ⟨ak, ab, ac, ax⟩ i) := hide (by unfold replay; rw [List.getElem?_eq_none (by omega)])
    have hli : log.length ≤ i := by omega
    go_enter Tryz.func66, Tryz.ntmps66
    go_wp2
    refine ⟨rfl, StepPost.err (unhide R) rfl ?_ ?_⟩
    · exact ((unhide HH).chg (Chg.alloc (Chg.refl _ _) _)).chg (Chg.alloc (Chg.refl _ _) _)
    · exact ((Chg.refl _ _).alloc _).alloc _
theorem assert_pending (x : Value) (w : World) : (Instr.typeAssert (.iface 130 x) 20 130 true).run Tryz.prog w = .ok (.tuple #[x, .bool true]) w := by kernel_rfl
attribute [local go_sem] assert_pending
set_option maxRecDepth 100000 in
set_option maxHeartbeats 1000000 in
theorem catch_panicking (Ab Ob Db : Nat) (a : Acc) (x0 x1 x2 x3 y0 y1 y2 y3 z0 : Value) (older : List PanicEntry) (w : World)
    (hA : Blk w Ab 29 #[x0, x1, x2, x3]) (hO : Blk w Ob 35 #[y0, y1, y2, y3]) (hD : Blk w Db 4 #[z0]) (hAO : ¬ Ab = Ob) (hAD : ¬ Ab = Db) (hOD : ¬ Ob = Db) :
    CallsD Tryz.prog 67 #[.pointer (some ⟨Ab, 0, none⟩), .pointer (some ⟨Ob, 0, none⟩), .pointer (some ⟨Db, 0, none⟩)] (.panicking ({ v := pending a, recovered := false } :: older)) w fun e u' w' =>
      e = .returned (.tuple #[]) ∧ u' = .panicking ({ v := pending a, recovered := true } :: older) ∧ Chg (fun k => k = Ab ∨ k = Ob ∨ k = Db) w w' ∧
      Blk w' Ab 29 #[.int .i64 a.kind, .int .i64 a.bank, .int .i64 a.cell, .string a.bytes] ∧ Blk w' Ob 35 #[.int .i64 0, .slice none 0 0, .slice none 0 0, .int .i64 0] ∧ Blk w' Db 4 #[.bool false] := by
  have hA0 := hA.cell 0
  have hA1 := hA.cell 1
  have hA2 := hA.cell 2
  have hA3 := hA.cell 3
  have hO0 := hO.cell 0
  have hO1 := hO.cell 1
  have hO2 := hO.cell 2
  have hO3 := hO.cell 3
  have hD0 := hD.cell 0
  have fA := hA.frozen
  have fO := hO.frozen
  have fD := hD.frozen
  have lA := hA.lt
  have lO := hO.lt
  have lD := hD.lt
  simp only [List.getElem?_toArray, List.getElem?_cons_zero, List.getElem?_cons_succ] at hA0 hA1 hA2 hA3 hO0 hO1 hO2 hO3 hD0
  have HA := hide hA
  have HO := hide hO
  have HD := hide hD
  clear hA hO hD
  have hAO' : ¬ Ob = Ab := fun e => hAO e.symm
  have hAD' : ¬ Db = Ab := fun e => hAD e.symm
  have hOD' : ¬ Db = Ob := fun e => hOD e.symm
  obtain ⟨ak, ab, ac, ax⟩ := a
  simp only [pending, Acc.v]
  refine callsD_of_wpS Tryz.func67 rfl fun c₀ cs hu => ?_
  simp only [Tryz.ntmps67, List.size_toArray, List.length_cons, List.length_nil, Nat.reduceAdd, Nat.reduceSub, Array.replicate_succ, Array.replicate_zero, List.push_toArray, List.append_toArray, List.nil_append, List.cons_append]
  apply wpS_seq
  apply wpS_region
  simp [wpOpsS, go_sem, recoverD, hu, Exit.thenS]
  refine wpS_of_wp ?_
  go_wp2
  go_region
  go_wp2
  refine ⟨rfl, _, rfl, .tuple #[], results_none rfl _ _ _, rfl, rfl, ?_, ?_, ?_, ?_⟩
  · repeat' (first | (with_reducible exact Chg.refl _ _) | (with_reducible exact Ext.refl _) | (with_reducible assumption) | (with_reducible refine Chg.alloc ?_ _) | (with_reducible refine Chg.drew ?_) | (with_reducible refine Chg.drewN ?_ _) | (with_reducible refine Chg.setCell ?_ ?_ _) | (with_reducible refine Ext.alloc ?_ _) | (with_reducible refine Ext.drew ?_) | (with_reducible refine Ext.drewN ?_ _) | (with_reducible refine Ext.setCell ?_ ?_ _) | (simp; done) | (simp; omega) | omega)
  · exact ((((((((((((unhide HA).set_ 0 _).set_ 1 _).set_ 2 _).set_ 3 _).far (p := ⟨Ob, 0, none⟩) hAO _).far (p := ⟨Ob, 1, none⟩) hAO _).far (p := ⟨Ob, 2, none⟩) hAO _).far (p := ⟨Ob, 3, none⟩) hAO _).far (p := ⟨Db, 0, none⟩) hAD _).alloc _).alloc _).drew
  · exact ((((((((((((unhide HO).far (p := ⟨Ab, 0, none⟩) hAO' _).far (p := ⟨Ab, 1, none⟩) hAO' _).far (p := ⟨Ab, 2, none⟩) hAO' _).far (p := ⟨Ab, 3, none⟩) hAO' _).set_ 0 _).set_ 1 _).set_ 2 _).set_ 3 _).far (p := ⟨Db, 0, none⟩) hOD _).alloc _).alloc _).drew
  · exact ((((((((((((unhide HD).far (p := ⟨Ab, 0, none⟩) hAD' _).far (p := ⟨Ab, 1, none⟩) hAD' _).far (p := ⟨Ab, 2, none⟩) hAD' _).far (p := ⟨Ab, 3, none⟩) hAD' _).far (p := ⟨Ob, 0, none⟩) hOD' _).far (p := ⟨Ob, 1, none⟩) hOD' _).far (p := ⟨Ob, 2, none⟩) hOD' _).far (p := ⟨Ob, 3, none⟩) hOD' _).set_ 0 _).alloc _).alloc _).drew
theorem catch_idle (x y z : Value) (w : World) :
    CallsD Tryz.prog 67 #[x, y, z] .returning w fun e u' w' => e = .returned (.tuple #[]) ∧ u' = .returning ∧ w = w' := by
  refine callsD_of_wpS Tryz.func67 rfl fun c₀ cs hu => ?_
  simp only [Tryz.ntmps67, List.size_toArray, List.length_cons, List.length_nil, Nat.reduceAdd, Nat.reduceSub, Array.replicate_succ, Array.replicate_zero, List.push_toArray, List.append_toArray, List.nil_append, List.cons_append]
  apply wpS_seq
  apply wpS_region
  simp [wpOpsS, go_sem, recoverD, hu, Exit.thenS]
  refine wpS_of_wp ?_
  go_wp2
  exact ⟨rfl, .returning, by cases c₀; simp_all, .tuple #[], results_none rfl _ _ _, rfl, rfl, rfl⟩
end Go.Proofs.YtplkplegjoabgaaGreatDoor


namespace Go.Proofs.YtplkplegjoabgaaGreatDoor
open Go.RowKit
def runWorld (w : World) (lv : Value) : World :=
  ((((w.alloc (.cells #[lv] 24)).alloc (.cells #[.int .i64 0, .int .i64 0, .int .i64 0, .string { data := #[] }] 29)).alloc (.cells #[.int .i64 0, .slice none 0 0, .slice none 0 0, .int .i64 0] 35)).alloc (.cells #[.bool false] 4)).alloc (.cells #[.int .i64 0] 3)
theorem runWorld_facts (w : World) (lv : Value) (log : List Res) (hl : Reads w 2 lv log.length (logCells log)) :
    Ext w (runWorld w lv) ∧ (runWorld w lv).heap.size = w.heap.size + 5 ∧
    RunInv (w.heap.size + 1 + 1 + 1 + 1) w.heap.size lv log 0 (fun k => k = w.heap.size + 1 ∨ k = w.heap.size + 1 + 1 ∨ k = w.heap.size + 1 + 1 + 1) (runWorld w lv) ∧
    Blk (runWorld w lv) (w.heap.size + 1) 29 #[.int .i64 0, .int .i64 0, .int .i64 0, .string { data := #[] }] ∧
    Blk (runWorld w lv) (w.heap.size + 1 + 1) 35 #[.int .i64 0, .slice none 0 0, .slice none 0 0, .int .i64 0] ∧ Blk (runWorld w lv) (w.heap.size + 1 + 1 + 1) 4 #[.bool false] := by
  have hlt := fun k (hn : 0 < log.length) hk => hl.own_lt (by omega) hn k hk
  have hE : Ext w (runWorld w lv) := by
    unfold runWorld
    repeat' (first | (with_reducible exact Chg.refl _ _) | (with_reducible exact Ext.refl _) | (with_reducible assumption) | (with_reducible refine Chg.alloc ?_ _) | (with_reducible refine Chg.drew ?_) | (with_reducible refine Chg.drewN ?_ _) | (with_reducible refine Chg.setCell ?_ ?_ _) | (with_reducible refine Ext.alloc ?_ _) | (with_reducible refine Ext.drew ?_) | (with_reducible refine Ext.drewN ?_ _) | (with_reducible refine Ext.setCell ?_ ?_ _) | (simp; done) | (simp; omega) | omega)
  refine ⟨hE, by simp [runWorld], ⟨?_, ?_, hl.ext hE, by omega, ?_, by omega, ?_⟩, ?_, ?_, ?_⟩
  · exact Blk.new' _ _ _ (by simp)
  · exact ((((Blk.new w 24 #[lv]).alloc _).alloc _).alloc _).alloc _
  · intro hn hk
    have := hlt _ hn hk
    omega
  · rintro k hk
    refine ⟨by simp [runWorld]; omega, by omega, by omega, fun hn hk' => ?_⟩
    have := hlt _ hn hk'
    omega
  · exact (((Blk.new' _ _ _ (by simp)).alloc _).alloc _).alloc _
  · exact ((Blk.new' _ _ _ (by simp)).alloc _).alloc _
  · exact (Blk.new' _ _ _ (by simp)).alloc _
theorem run_results (tmps : Array Value) (w : World) (Ab Ob Db : Nat) (a0 a1 a2 a3 o0 o1 o2 o3 d0 : Value) (h4 : tmps[4]?.getD undef = .pointer (some ⟨Ab, 0, none⟩)) (h5 : tmps[5]?.getD undef = .pointer (some ⟨Ob, 0, none⟩)) (h6 : tmps[6]?.getD undef = .pointer (some ⟨Db, 0, none⟩))
    (hA : Blk w Ab 29 #[a0, a1, a2, a3]) (hO : Blk w Ob 35 #[o0, o1, o2, o3]) (hD : Blk w Db 4 #[d0]) :
    (results Tryz.f34 tmps).run Tryz.prog w = .ok (.tuple #[.agg #[a0, a1, a2, a3], .agg #[o0, o1, o2, o3], d0]) w := by
  have a0 := hA.cell 0
  have a1 := hA.cell 1
  have a2 := hA.cell 2
  have a3 := hA.cell 3
  have o0 := hO.cell 0
  have o1 := hO.cell 1
  have o2 := hO.cell 2
  have o3 := hO.cell 3
  have d0 := hD.cell 0
  simp only [List.getElem?_toArray, List.getElem?_cons_zero, List.getElem?_cons_succ] at a0 a1 a2 a3 o0 o1 o2 o3 d0
  simp [results, Tryz.results34, go_sem, h4, h5, h6, a0, a1, a2, a3, o0, o1, o2, o3, d0]
set_option maxHeartbeats 1000000 in
theorem runS_any {α : Type} (G : Nat) (pc : Array Value) (lv : Value) (log : List Res) (p : Prg α) (V : α → Array Value → World → Prop) (g : Nat) (w : World) (hl : Reads w 2 lv log.length (logCells log)) (hG : ∀ (args : Array Value) (w : World), (callFunc G args).run Tryz.prog w = .ok (.enter G args) w)
    (hV : ∀ a ys w1 w2, V a ys w1 → Chg (fun k => w.heap.size ≤ k ∧ k < w.heap.size + 5) w1 w2 → V a ys w2)
    (hp : ∀ w1, Ext w w1 → w1.heap.size = w.heap.size + 5 → RunInv (w.heap.size + 1 + 1 + 1 + 1) w.heap.size lv log 0 (fun k => k = w.heap.size + 1 ∨ k = w.heap.size + 1 + 1 ∨ k = w.heap.size + 1 + 1 + 1) w1 →
      Calls Tryz.prog G (#[.func (.func 66) #[] #[.pointer (some ⟨w.heap.size + 1 + 1 + 1 + 1, 0, none⟩), .pointer (some ⟨w.heap.size, 0, none⟩)]] ++ pc) w1 fun e w2 => Chg (fun k => k = w.heap.size + 1 + 1 + 1 + 1 ∨ (g ≤ k ∧ k < w.heap.size)) w1 w2 ∧
        ((∃ a i z A1 n1 c1 A2 n2 c2 er, p.run (replay log) 0 = .ok a i ∧ e = .returned (.agg #[.int .i64 z, .slice A1 n1 c1, .slice A2 n2 c2, .int .i64 er]) ∧ V a #[.int .i64 z, .slice A1 n1 c1, .slice A2 n2 c2, .int .i64 er] w2) ∨ ∃ c i, p.run (replay log) 0 = .error c i ∧ e = .panicked [{ v := pending c, recovered := false }])) :
    Calls Tryz.prog 34 #[.func (.func G) #[] pc, lv] w fun e w' => Chg (fun k => g ≤ k) w w' ∧
      ((∃ a i z A1 n1 c1 A2 n2 c2 er, p.run (replay log) 0 = .ok a i ∧ e = .returned (.tuple #[.agg #[.int .i64 0, .int .i64 0, .int .i64 0, .string noBytes], .agg #[.int .i64 z, .slice A1 n1 c1, .slice A2 n2 c2, .int .i64 er], .bool true]) ∧ V a #[.int .i64 z, .slice A1 n1 c1, .slice A2 n2 c2, .int .i64 er] w') ∨
       ∃ c i, p.run (replay log) 0 = .error c i ∧ e = .returned (.tuple #[c.v, .agg #[.int .i64 0, .slice none 0 0, .slice none 0 0, .int .i64 0], .bool false])) := by
  have hmf : ∀ (fn : Fn) (first cap : Array Value) (w : World), (Instr.makeFunc fn first cap).run Tryz.prog w = .ok (.func fn first cap) w := fun _ _ _ _ => rfl
  have HP := hide hp
  have HL := hide hl
  obtain ⟨_, B, c, rfl, hnc, hcm, _⟩ := hl
  clear hp hnc hcm
  go_enter_defers Tryz.func34, Tryz.ntmps34
  go_wp2_with fail
  obtain ⟨hE, hsz, hI, hBA, hBO, hBD⟩ := runWorld_facts w (.slice B log.length c) log (unhide HL)
  refine (unhide HP (runWorld w (.slice B log.length c)) hE hsz hI).mono ?_
  rintro e w1 ⟨h2, hq⟩
  have nA : ¬ (w.heap.size + 1 = w.heap.size + 1 + 1 + 1 + 1 ∨ (g ≤ w.heap.size + 1 ∧ w.heap.size + 1 < w.heap.size)) := by omega
  have nO : ¬ (w.heap.size + 1 + 1 = w.heap.size + 1 + 1 + 1 + 1 ∨ (g ≤ w.heap.size + 1 + 1 ∧ w.heap.size + 1 + 1 < w.heap.size)) := by omega
  have nD : ¬ (w.heap.size + 1 + 1 + 1 = w.heap.size + 1 + 1 + 1 + 1 ∨ (g ≤ w.heap.size + 1 + 1 + 1 ∧ w.heap.size + 1 + 1 + 1 < w.heap.size)) := by omega
  rcases hq with ⟨a, s, z, A1, n1, c1, A2, n2, c2, er, hr, rfl, hv⟩ | ⟨a, s, hr, rfl⟩
  · have HR := hide hr
    have HVV := hide (And.intro hV hv)
    have hA := hide (hBA.chg h2 nA)
    have hO := hide (hBO.chg h2 nO)
    have hD := hide (hBD.chg h2 nD)
    have hEx : Hid (Chg (fun k => g ≤ k) w w1) := hide (hE.trans' h2 (fun _ _ h => h.elim) (fun i hi e => by rcases e with e | e <;> omega))
    have a0 := (unhide hA).cell 0
    have a1 := (unhide hA).cell 1
    have a2 := (unhide hA).cell 2
    have a3 := (unhide hA).cell 3
    have o0 := (unhide hO).cell 0
    have o1 := (unhide hO).cell 1
    have o2 := (unhide hO).cell 2
    have o3 := (unhide hO).cell 3
    have d0 := (unhide hD).cell 0
    simp only [List.getElem?_toArray, List.getElem?_cons_zero, List.getElem?_cons_succ] at a0 a1 a2 a3 o0 o1 o2 o3 d0
    have fA := (unhide hA).frozen
    have fO := (unhide hO).frozen
    have fD := (unhide hD).frozen
    clear hr h2 hE hsz hI hBA hBO hBD HP hv hV
    go_wp2
    have e1 : ¬ w.heap.size + 1 = w.heap.size + 1 + 1 := by omega
    have e2 : ¬ w.heap.size + 1 = w.heap.size + 1 + 1 + 1 := by omega
    have e3 : ¬ w.heap.size + 1 + 1 = w.heap.size + 1 := by omega
    have e4 : ¬ w.heap.size + 1 + 1 = w.heap.size + 1 + 1 + 1 := by omega
    have e5 : ¬ w.heap.size + 1 + 1 + 1 = w.heap.size + 1 := by omega
    have e6 : ¬ w.heap.size + 1 + 1 + 1 = w.heap.size + 1 + 1 := by omega
    refine leaves_cons (f := 67) (args := #[.pointer (some ⟨w.heap.size + 1, 0, none⟩), .pointer (some ⟨w.heap.size + 1 + 1, 0, none⟩), .pointer (some ⟨w.heap.size + 1 + 1 + 1, 0, none⟩)]) (by simp) (by simp [go_sem]) ?_
    refine (catch_idle _ _ _ _).mono ?_
    rintro e u' w2 ⟨rfl, rfl, rfl⟩
    refine ⟨_, run_results _ _ (w.heap.size + 1) (w.heap.size + 1 + 1) (w.heap.size + 1 + 1 + 1) (.int .i64 0) (.int .i64 0) (.int .i64 0) (.string { data := #[] }) (.int .i64 z) (.slice A1 n1 c1) (.slice A2 n2 c2) (.int .i64 er) (.bool true) rfl rfl rfl ?_ ?_ ?_, ?_, ?_⟩
    · exact (((((((((unhide hA).set_ 0 _).set_ 1 _).set_ 2 _).set_ 3 _).far (p := ⟨w.heap.size + 1 + 1, 0, none⟩) e1 _).far (p := ⟨w.heap.size + 1 + 1, 1, none⟩) e1 _).far (p := ⟨w.heap.size + 1 + 1, 2, none⟩) e1 _).far (p := ⟨w.heap.size + 1 + 1, 3, none⟩) e1 _).far (p := ⟨w.heap.size + 1 + 1 + 1, 0, none⟩) e2 _
    · exact (((((((((unhide hO).far (p := ⟨w.heap.size + 1, 0, none⟩) e3 _).far (p := ⟨w.heap.size + 1, 1, none⟩) e3 _).far (p := ⟨w.heap.size + 1, 2, none⟩) e3 _).far (p := ⟨w.heap.size + 1, 3, none⟩) e3 _).set_ 0 _).set_ 1 _).set_ 2 _).set_ 3 _).far (p := ⟨w.heap.size + 1 + 1 + 1, 0, none⟩) e4 _
    · exact (((((((((unhide hD).far (p := ⟨w.heap.size + 1, 0, none⟩) e5 _).far (p := ⟨w.heap.size + 1, 1, none⟩) e5 _).far (p := ⟨w.heap.size + 1, 2, none⟩) e5 _).far (p := ⟨w.heap.size + 1, 3, none⟩) e5 _).far (p := ⟨w.heap.size + 1 + 1, 0, none⟩) e6 _).far (p := ⟨w.heap.size + 1 + 1, 1, none⟩) e6 _).far (p := ⟨w.heap.size + 1 + 1, 2, none⟩) e6 _).far (p := ⟨w.heap.size + 1 + 1, 3, none⟩) e6 _).set_ 0 _
    · have hx := unhide hEx
      repeat' (first | (with_reducible exact Chg.refl _ _) | (with_reducible exact Ext.refl _) | (with_reducible assumption) | (with_reducible refine Chg.alloc ?_ _) | (with_reducible refine Chg.drew ?_) | (with_reducible refine Chg.drewN ?_ _) | (with_reducible refine Chg.setCell ?_ ?_ _) | (with_reducible refine Ext.alloc ?_ _) | (with_reducible refine Ext.drew ?_) | (with_reducible refine Ext.drewN ?_ _) | (with_reducible refine Ext.setCell ?_ ?_ _) | (simp; done) | (simp; omega) | omega)
    · refine .inl ⟨a, s, z, A1, n1, c1, A2, n2, c2, er, unhide HR, rfl, (unhide HVV).1 _ _ _ _ (unhide HVV).2 ?_⟩
      repeat' (first | (with_reducible exact Chg.refl _ _) | (with_reducible exact Ext.refl _) | (with_reducible assumption) | (with_reducible refine Chg.alloc ?_ _) | (with_reducible refine Chg.drew ?_) | (with_reducible refine Chg.drewN ?_ _) | (with_reducible refine Chg.setCell ?_ ?_ _) | (with_reducible refine Ext.alloc ?_ _) | (with_reducible refine Ext.drew ?_) | (with_reducible refine Ext.drewN ?_ _) | (with_reducible refine Ext.setCell ?_ ?_ _) | (simp; done) | (simp; omega) | omega)
  · have HR := hide hr
    have hA := hide (hBA.chg h2 nA)
    have hO := hide (hBO.chg h2 nO)
    have hD := hide (hBD.chg h2 nD)
    have hEx : Hid (Chg (fun k => g ≤ k) w w1) := hide (hE.trans' h2 (fun _ _ h => h.elim) (fun i hi e => by rcases e with e | e <;> omega))
    clear hr h2 hE hsz hI hBA hBO hBD HP hV
    go_wp2
    refine leaves_cons (f := 67) (args := #[.pointer (some ⟨w.heap.size + 1, 0, none⟩), .pointer (some ⟨w.heap.size + 1 + 1, 0, none⟩), .pointer (some ⟨w.heap.size + 1 + 1 + 1, 0, none⟩)]) (by simp) (by simp [go_sem]) ?_
    refine (catch_panicking _ _ _ a _ _ _ _ _ _ _ _ _ [] _ (unhide hA) (unhide hO) (unhide hD) (by omega) (by omega) (by omega)).mono ?_
    rintro e u' w2 ⟨rfl, rfl, hc, hA', hO', hD'⟩
    refine ⟨_, run_results _ _ _ _ _ _ _ _ _ _ _ _ _ _ rfl rfl rfl hA' hO' hD', ?_, ?_⟩
    rotate_left 1
    · exact .inr ⟨a, s, unhide HR, rfl⟩
    · exact (unhide hEx).trans' hc (fun _ _ h => h) (fun i hi e => by rcases e with e | e | e <;> omega)
end Go.Proofs.YtplkplegjoabgaaGreatDoor


namespace Go.Proofs.YtplkplegjoabgaaGreatDoor.Pv
open Go.RowKit
def logO (log : List Res) : List Acc → Option Res := fun l => match l.length with
  | 0 => none
  | n + 1 => log[n]?
theorem logO_snoc (log : List Res) (l : List Acc) (c : Acc) : logO log (l ++ [c]) = log[l.length]? := by
  unfold logO
  rw [List.length_append]
  rfl
theorem replay_some {log : List Res} {a : Acc} {i : Nat} {r : Res} (h : log[i]? = some r) : replay log a i = .ok r (i + 1) := by unfold replay; rw [h]
theorem replay_none {log : List Res} {a : Acc} {i : Nat} (h : log[i]? = none) : replay log a i = .error a i := by unfold replay; rw [h]
theorem go_replay {α : Type} (log : List Res) (p : Prg α) : ∀ l : List Acc, l.length ≤ log.length →
    ((go (logO log) p l).2.length ≤ log.length → p.run (replay log) l.length = .ok (go (logO log) p l).1 (go (logO log) p l).2.length) ∧
    (∀ l' c, l' ++ [c] <+: (go (logO log) p l).2 → l <+: l' → l'.length = log.length → p.run (replay log) l.length = .error c log.length) := by
  induction p with
  | ret a =>
    refine fun l hl => ⟨fun _ => rfl, fun l' c h1 h2 h3 => ?_⟩
    have h4 := h1.length_le
    have h5 := h2.length_le
    rw [List.length_append, List.length_singleton] at h4
    have h6 : (go (logO log) (Prg.ret a) l).2 = l := rfl
    rw [h6] at h4
    omega
  | ask a k ih =>
    intro l hl
    rw [go_ask]
    have hpre := go_pre (logO log) (k (ans (logO log) (l ++ [a]))) (l ++ [a])
    have hlen : (l ++ [a]).length = l.length + 1 := by simp
    cases hr : log[l.length]? with
    | some r =>
      have hlt : l.length < log.length := (List.getElem?_eq_some_iff.1 hr).1
      have ha : ans (logO log) (l ++ [a]) = r := by unfold ans; rw [logO_snoc, hr]; rfl
      rw [ha] at hpre ⊢
      obtain ⟨i1, i2⟩ := ih r (l ++ [a]) (by omega)
      rw [hlen] at i1 i2
      have hrun : (Prg.ask a k).run (replay log) l.length = (k r).run (replay log) (l.length + 1) := by
        simp only [Prg.run, replay_some hr]
      rw [hrun]
      refine ⟨i1, fun l' c h1 h2 h3 => i2 l' c h1 ?_ h3⟩
      exact List.prefix_of_prefix_length_le hpre ((List.prefix_append l' [c]).trans h1) (by rw [hlen]; omega)
    | none =>
      have hge : log.length ≤ l.length := List.getElem?_eq_none_iff.1 hr
      have hrun : (Prg.ask a k).run (replay log) l.length = .error a l.length := by
        simp only [Prg.run, replay_none hr]
      refine ⟨fun h => ?_, fun l' c h1 h2 h3 => ?_⟩
      · have := hpre.length_le
        rw [hlen] at this
        omega
      · have hll : l' = l := (h2.eq_of_length (by omega)).symm
        subst hll
        have := List.prefix_of_prefix_length_le h1 hpre (by simp)
        have h4 := this.eq_of_length (by simp)
        have h5 : c = a := by simpa using h4
        rw [hrun, h5, h3]
def runD (A L : Nat) (lv : Value) (log : List Res) : Dv where
  hd := .func (.func 66) #[] #[.pointer (some ⟨A, 0, none⟩), .pointer (some ⟨L, 0, none⟩)]
  O := logO log
  S := fun k => k = A
  inv := fun l X w => RunInv A L lv log l.length X w
  pan := fun l _ _ chain => ∃ l' c, l = l' ++ [c] ∧ l'.length ≤ log.length ∧ chain = [{ v := pending c, recovered := false }]
  one := rfl
  noBlk := rfl
  notS := fun _ _ _ b h hb => (h.mine b hb).2.1
  grow := fun l X Y w w' h hc hY => by
    have h' := h.chg hc
    refine ⟨h'.at_, h'.logv, h'.reads, h'.ne, h'.own, h'.le, fun k hk => ?_⟩
    rcases hY k hk with hx | ⟨h1, h2⟩
    · exact h'.mine k hx
    · have h3 := lt_of_heap h.at_
      have h4 := lt_of_heap h.logv
      refine ⟨h2, by omega, by omega, fun hn hk' => ?_⟩
      have := h.reads.own_lt (by omega) hn k hk'
      omega
theorem runD_step (A L : Nat) (lv : Value) (log : List Res) : DvStep Tryz.prog (runD A L lv log) := fun l X w h => by
  refine ⟨_, _, rfl, (fun args w => by kernel_rfl), fun c => ?_⟩
  refine (run_do A L lv log c l.length X w h _ rfl).mono ?_
  intro e w' hp
  cases hr : log[l.length]? with
  | some r =>
    obtain ⟨h1, h2, h3⟩ := hp.of_ok (replay_some hr)
    refine ⟨h3, .inl ⟨r, ?_, h1, ?_⟩⟩
    · exact (logO_snoc log l c).trans hr
    · show RunInv A L lv log (l ++ [c]).length X w'
      rw [List.length_append]
      exact h2
  | none =>
    obtain ⟨h1, h2, h3⟩ := hp.of_err (replay_none hr)
    exact ⟨h3, .inr ⟨_, (logO_snoc log l c).trans hr, h1, l, c, rfl, h.le, rfl⟩⟩
end Go.Proofs.YtplkplegjoabgaaGreatDoor.Pv


namespace Go.Proofs.YtplkplegjoabgaaGreatDoor
open Go.RowKit
set_option maxHeartbeats 1000000 in
theorem sign_clo (seed m : Array Value) (h : Int) (w : World) (_ : seed.size = 16) (_ : m.size = 16) :
    Calls Tryz.prog 35 #[.agg seed, .int .i64 h, .agg m] w fun e w' =>
      e = .returned (.func (.func 68) #[] #[.pointer (some ⟨w.heap.size + 1, 0, none⟩), .pointer (some ⟨w.heap.size, 0, none⟩), .pointer (some ⟨w.heap.size + 1 + 1, 0, none⟩)]) ∧
      Ext w w' ∧ w'.heap.size = w.heap.size + 3 ∧ Blk w' w.heap.size 23 seed ∧ Blk w' (w.heap.size + 1) 3 #[.int .i64 h] ∧ Blk w' (w.heap.size + 1 + 1) 23 m := by
  have hmf : ∀ (fn : Fn) (first cap : Array Value) (w : World), (Instr.makeFunc fn first cap).run Tryz.prog w = .ok (.func fn first cap) w := fun _ _ _ _ => rfl
  go_enter Tryz.func35, Tryz.ntmps35
  go_wp2
  refine bodyPost_ret (v := .func (.func 68) #[] #[.pointer (some ⟨w.heap.size + 1, 0, none⟩), .pointer (some ⟨w.heap.size, 0, none⟩), .pointer (some ⟨w.heap.size + 1 + 1, 0, none⟩)]) (by simp [results, Tryz.results35, go_sem]) rfl ⟨rfl, ?_, ?_, ?_, ?_, ?_⟩
  · repeat' (first | (with_reducible exact Chg.refl _ _) | (with_reducible exact Ext.refl _) | (with_reducible assumption) | (with_reducible refine Chg.alloc ?_ _) | (with_reducible refine Chg.drew ?_) | (with_reducible refine Chg.drewN ?_ _) | (with_reducible refine Chg.setCell ?_ ?_ _) | (with_reducible refine Ext.alloc ?_ _) | (with_reducible refine Ext.drew ?_) | (with_reducible refine Ext.drewN ?_ _) | (with_reducible refine Ext.setCell ?_ ?_ _) | (simp; done) | (simp; omega) | omega)
  · simp
  · exact ((Blk.new w _ _).alloc _).alloc _
  · exact (Blk.new' _ _ _ (by simp)).alloc _
  · exact Blk.new' _ _ _ (by simp)
def NextP (seed m : List UInt8) (h : Int) (log : List Res) (w : World) (e : Ending) (w' : World) : Prop :=
  (∃ p i z A1 n1 c1 A2 n2 c2 er, (Prg.signI h).run (replay log) 0 = .ok p i ∧ e = .returned (.tuple #[.agg #[.int .i64 0, .int .i64 0, .int .i64 0, .string noBytes], .agg #[.int .i64 z, .slice A1 n1 c1, .slice A2 n2 c2, .int .i64 er], .bool true]) ∧
      Pv.RL { w := w', ok := fun b => w.heap.size ≤ b, env := fun _ => none } (Pv.sigPC (Pv.sgO seed h m p).1 ++ [.lit (.int .i64 (Pv.sgO seed h m p).2)]) [.int .i64 z, .slice A1 n1 c1, .slice A2 n2 c2, .int .i64 er]) ∨
  ∃ c i, (Prg.signI h).run (replay log) 0 = .error c i ∧ e = .returned (.tuple #[c.v, .agg #[.int .i64 0, .slice none 0 0, .slice none 0 0, .int .i64 0], .bool false])
theorem sign1_run (seed m : List UInt8) (hs : seed.length = 16) (hm : m.length = 16) (h : Int) (lv : Value) (log : List Res) (g : Nat) (w0 w : World) (hw0 : Ext w0 w) (hgw : g + 3 ≤ w0.heap.size) (hlv : ∀ k, lv.ownBlock = some k → 0 < log.length → k < g) (hmem : ∀ w', Chg (fun b => g ≤ b) w w' → ShaMem w')
    (B0 : Blk w0 g 23 (seed.map u8v).toArray) (B1 : Blk w0 (g + 1) 3 #[.int .i64 h]) (B2 : Blk w0 (g + 1 + 1) 23 (m.map u8v).toArray)
    (A : Nat) (hA : w0.heap.size ≤ A) (L : Nat) (hL : w0.heap.size ≤ L) (X : Nat → Prop) (hR : RunInv A L lv log 0 X w) :
    Calls Tryz.prog 68 (#[.func (.func 66) #[] #[.pointer (some ⟨A, 0, none⟩), .pointer (some ⟨L, 0, none⟩)]] ++ #[.pointer (some ⟨g + 1, 0, none⟩), .pointer (some ⟨g, 0, none⟩), .pointer (some ⟨g + 1 + 1, 0, none⟩)]) w fun e w2 =>
      Chg (fun k => k = A ∨ (g ≤ k ∧ k < w0.heap.size)) w w2 ∧ ((∃ p i z A1 n1 c1 A2 n2 c2 er, (Prg.signI h).run (replay log) 0 = .ok p i ∧ e = .returned (.agg #[.int .i64 z, .slice A1 n1 c1, .slice A2 n2 c2, .int .i64 er]) ∧
        Pv.RL { w := w2, ok := fun b => w.heap.size ≤ b, env := fun _ => none } (Pv.sigPC (Pv.sgO seed h m p).1 ++ [.lit (.int .i64 (Pv.sgO seed h m p).2)]) [.int .i64 z, .slice A1 n1 c1, .slice A2 n2 c2, .int .i64 er]) ∨
        ∃ c i, (Prg.signI h).run (replay log) 0 = .error c i ∧ e = .panicked [{ v := pending c, recovered := false }]) := by
  have b0 := B0.ext hw0
  have b1 := B1.ext hw0
  have b2 := B2.ext hw0
  have hAw := lt_of_heap hR.at_
  have hLw := lt_of_heap hR.logv
  obtain ⟨bl, hbl⟩ : ∃ bl : Nat → Nat, bl 900001 = g + 1 ∧ bl 900002 = g ∧ bl 900003 = g + 1 + 1 := ⟨fun x => if x = 900001 then g + 1 else if x = 900002 then g else g + 1 + 1, rfl, rfl, rfl⟩
  obtain ⟨hb1, hb2, hb3⟩ := hbl
  have hX0 : (Pv.runD A L lv log).inv [] (fun k => X k ∨ k = g ∨ k = g + 1 ∨ k = g + 1 + 1) w := by
    refine ⟨hR.at_, hR.logv, hR.reads, hR.ne, hR.own, hR.le, fun k hk => ?_⟩
    rcases hk with hk | hk
    · exact hR.mine k hk
    · refine ⟨?_, by omega, by omega, fun hn hk' => ?_⟩
      · have := b2.lt; omega
      · have := hlv k hk' hn; omega
  have hobs : ∀ o ∈ Pv.sgObs seed m h, (o.x = 900001 ∧ o.t = 3 ∧ o.l = [.lit (.int .i64 h)]) ∨ (o.x = 900002 ∧ o.t = 23 ∧ o.l = [.bs 16 seed]) ∨ (o.x = 900003 ∧ o.t = 23 ∧ o.l = [.bs 16 m]) := by
    intro o ho
    simp only [Pv.sgObs, List.mem_cons, List.not_mem_nil, or_false] at ho
    rcases ho with rfl | rfl | rfl
    · exact .inl ⟨rfl, rfl, rfl⟩
    · exact .inr (.inl ⟨rfl, rfl, rfl⟩)
    · exact .inr (.inr ⟨rfl, rfl, rfl⟩)
  have hSX : ∀ b, Pv.SX (Pv.sgObs seed m h) bl (Pv.runD A L lv log) b → b = A ∨ b = g ∨ b = g + 1 ∨ b = g + 1 + 1 := by
    rintro b (hb | ⟨o, ho, rfl⟩)
    · exact .inl hb
    · rcases hobs o ho with ⟨e, _⟩ | ⟨e, _⟩ | ⟨e, _⟩ <;> rw [e] <;> omega
  have hgo := Pv.go_replay log (Prg.signI h) [] (Nat.zero_le _)
  have e1 : Value.pointer (some ⟨g + 1, 0, none⟩) = .pointer (some ⟨bl 900001, 0, none⟩) := by rw [hb1]
  have e2 : Value.pointer (some ⟨g, 0, none⟩) = .pointer (some ⟨bl 900002, 0, none⟩) := by rw [hb2]
  have e3 : Value.pointer (some ⟨g + 1 + 1, 0, none⟩) = .pointer (some ⟨bl 900003, 0, none⟩) := by rw [hb3]
  refine (Pv.sign1_fun seed m h (Pv.logO log) [] w (fun _ => False) [.func (.func 66) #[] #[.pointer (some ⟨A, 0, none⟩), .pointer (some ⟨L, 0, none⟩)], .pointer (some ⟨g + 1, 0, none⟩), .pointer (some ⟨g, 0, none⟩), .pointer (some ⟨g + 1 + 1, 0, none⟩)] bl (Pv.runD A L lv log) (fun k => X k ∨ k = g ∨ k = g + 1 ∨ k = g + 1 + 1)
    (fun w' hc => hmem w' (hc.mono fun b _ hb => by rcases hSX b hb with h | h | h | h <;> omega))
    (fun b hb => ⟨by have := b2.lt; rcases hSX b hb with h | h | h | h <;> omega, fun h => h⟩)
    (Pv.runD_step A L lv log) (fun _ _ _ _ _ h _ => h) rfl (fun p hp => by cases hp; exact hX0) (fun h => by cases h)
    (fun o ho => ?_) (fun o ho o' ho' e => ?_) ⟨?_, ?_, ?_, ?_, trivial⟩).mono ?_
  · rcases hobs o ho with ⟨k1, k2, k3⟩ | ⟨k1, k2, k3⟩ | ⟨k1, k2, k3⟩ <;> rw [k1, k2, k3]
    · exact ⟨.inr (.inr (.inl hb1)), _, by rw [hb1]; exact b1, .cons (.lit rfl) .nil⟩
    · refine ⟨.inr (.inl hb2), _, by rw [hb2]; exact b0, ?_⟩
      have := Pv.RL.cons (C := { w := w, ok := fun _ => False, env := fun _ => none }) (Pv.R.bs (n := 16) hs) Pv.RL.nil
      rw [List.append_nil] at this
      exact this
    · refine ⟨.inr (.inr (.inr hb3)), _, by rw [hb3]; exact b2, ?_⟩
      have := Pv.RL.cons (C := { w := w, ok := fun _ => False, env := fun _ => none }) (Pv.R.bs (n := 16) hm) Pv.RL.nil
      rw [List.append_nil] at this
      exact this
  · rcases hobs o ho with ⟨k1, _⟩ | ⟨k1, _⟩ | ⟨k1, _⟩ <;> rcases hobs o' ho' with ⟨k2, _⟩ | ⟨k2, _⟩ | ⟨k2, _⟩ <;> rw [k1, k2] at e ⊢ <;> first | rfl | (exfalso; omega)
  · exact .w (.one (.dv rfl ⟨0, _, rfl, Nat.le_refl _, fun _ => rfl⟩))
  · exact .w (.one (.pt ⟨_, _, rfl⟩ ⟨0, _, rfl, Nat.le_refl _, fun _ => ⟨_, rfl, e1⟩⟩))
  · exact .w (.one (.pt ⟨_, _, rfl⟩ ⟨0, _, rfl, Nat.le_refl _, fun _ => ⟨_, rfl, e2⟩⟩))
  · exact .w (.one (.pt ⟨_, _, rfl⟩ ⟨0, _, rfl, Nat.le_refl _, fun _ => ⟨_, rfl, e3⟩⟩))
  rintro e w2 ⟨hc, hq⟩
  refine ⟨hc.mono fun b _ hb => by rcases hSX b hb with h | h | h | h <;> omega, ?_⟩
  rcases hq with ⟨val, rfl, hres, _, hdv⟩ | ⟨chain, l, rfl, h1, h2, h3⟩
  · refine .inl ?_
    have hinv := hdv _ rfl
    have hrun := hgo.1 hinv.le
    cases hres with
    | w hres => cases hres with
      | @agg _ cs hres =>
        obtain ⟨cs⟩ := cs
        dsimp only at hres
        have hok : Pv.RL { w := w2, ok := fun b => w.heap.size ≤ b, env := fun _ => none } _ cs := hres.le ⟨Nat.le_refl _, fun b _ hb => ⟨hb.elim (fun h => h.2.elim) id, rfl⟩, fun _ _ _ h => by cases h⟩
        have hok2 := hok
        unfold Pv.sigPC at hres
        cases hres with
        | cons k1 hres => cases hres with
          | cons k2 hres => cases hres with
            | cons k3 hres => cases hres with
              | cons k4 hres =>
                cases hres
                cases k1
                cases k4
                cases k2 with
                | sl r2 _ _ => cases k3 with
                  | sl r3 _ _ =>
                    obtain ⟨_, A1, c1, rfl, _⟩ := r2
                    obtain ⟨_, A2, c2, rfl, _⟩ := r3
                    exact ⟨_, _, _, _, _, _, _, _, _, _, hrun, rfl, hok2⟩
  · obtain ⟨l', c, rfl, h4, rfl⟩ := h3
    refine .inr ⟨c, _, hgo.2 l' c h1.2 (List.nil_prefix) ?_, rfl⟩
    have h5 : Pv.logO log (l' ++ [c]) = none := h2
    rw [Pv.logO_snoc, List.getElem?_eq_none_iff] at h5
    omega
set_option maxHeartbeats 2000000 in
theorem next_any (seed m : List UInt8) (hs : seed.length = 16) (hm : m.length = 16) (h : Int) (lv : Value) (log : List Res) (w : World) (hM : ShaMem w) (hl : Reads w 2 lv log.length (logCells log)) :
    Calls Tryz.prog 10 #[.agg (seed.map u8v).toArray, .int .i64 h, .agg (m.map u8v).toArray, lv] w fun e w' => Ext w w' ∧ NextP seed m h log w e w' := by
  have HSZ := hide (show (seed.map u8v).toArray.size = 16 ∧ (m.map u8v).toArray.size = 16 from ⟨by simpa using hs, by simpa using hm⟩)
  have HR := hide (fun W => sign_clo (seed.map u8v).toArray (m.map u8v).toArray h W (by simpa using hs) (by simpa using hm))
  have HL := hide (And.intro hM hl)
  have HS := hide (And.intro hs hm)
  obtain ⟨_, B, c, rfl, _, _, _⟩ := hl
  obtain ⟨arr, harr⟩ : ∃ x, (seed.map u8v).toArray = x := ⟨_, rfl⟩
  obtain ⟨mrr, hmrr⟩ : ∃ x, (m.map u8v).toArray = x := ⟨_, rfl⟩
  rw [harr] at HSZ HR ⊢
  rw [hmrr] at HSZ HR ⊢
  have HA := hide (And.intro harr hmrr)
  clear harr hmrr hM hs hm
  go_enter Tryz.func10, Tryz.ntmps10
  go_upto_region 1 with fail
  have HZ := hide (show Ext w ((((w.alloc (.cells arr 23)).alloc (.cells mrr 23)).alloc (.cells #[.int .i64 0, .int .i64 0, .int .i64 0, .string { data := #[] }] 29)).alloc (.cells #[.int .i64 0, .slice none 0 0, .slice none 0 0, .int .i64 0] 35)) ∧ Blk ((((w.alloc (.cells arr 23)).alloc (.cells mrr 23)).alloc (.cells #[.int .i64 0, .int .i64 0, .int .i64 0, .string { data := #[] }] 29)).alloc (.cells #[.int .i64 0, .slice none 0 0, .slice none 0 0, .int .i64 0] 35)) w.heap.size 23 arr ∧
      Blk ((((w.alloc (.cells arr 23)).alloc (.cells mrr 23)).alloc (.cells #[.int .i64 0, .int .i64 0, .int .i64 0, .string { data := #[] }] 29)).alloc (.cells #[.int .i64 0, .slice none 0 0, .slice none 0 0, .int .i64 0] 35)) (w.heap.size + 1) 23 mrr ∧
      Blk ((((w.alloc (.cells arr 23)).alloc (.cells mrr 23)).alloc (.cells #[.int .i64 0, .int .i64 0, .int .i64 0, .string { data := #[] }] 29)).alloc (.cells #[.int .i64 0, .slice none 0 0, .slice none 0 0, .int .i64 0] 35)) (w.heap.size + 1 + 1) 29 #[.int .i64 0, .int .i64 0, .int .i64 0, .string { data := #[] }] ∧
      Blk ((((w.alloc (.cells arr 23)).alloc (.cells mrr 23)).alloc (.cells #[.int .i64 0, .int .i64 0, .int .i64 0, .string { data := #[] }] 29)).alloc (.cells #[.int .i64 0, .slice none 0 0, .slice none 0 0, .int .i64 0] 35)) (w.heap.size + 1 + 1 + 1) 35 #[.int .i64 0, .slice none 0 0, .slice none 0 0, .int .i64 0] ∧
      ((((w.alloc (.cells arr 23)).alloc (.cells mrr 23)).alloc (.cells #[.int .i64 0, .int .i64 0, .int .i64 0, .string { data := #[] }] 29)).alloc (.cells #[.int .i64 0, .slice none 0 0, .slice none 0 0, .int .i64 0] 35)).heap.size = w.heap.size + 4
    from ⟨((((Ext.refl w).alloc _).alloc _).alloc _).alloc _, (((Blk.new w _ _).alloc _).alloc _).alloc _, ((Blk.new' _ _ _ (by simp)).alloc _).alloc _, (Blk.new' _ _ _ (by simp)).alloc _, Blk.new' _ _ _ (by simp), by simp⟩)
  generalize hW0 : ((((w.alloc (.cells arr 23)).alloc (.cells mrr 23)).alloc (.cells #[.int .i64 0, .int .i64 0, .int .i64 0, .string { data := #[] }] 29)).alloc (.cells #[.int .i64 0, .slice none 0 0, .slice none 0 0, .int .i64 0] 35)) = W0 at *
  clear hW0
  go_wp2_with (first
    | (refine wpList_loadB (ty := 23) (t := 23) (x := .tmp 4) rfl rfl digest_wide rfl (cs := arr) (unhide HZ).2.1 (unhide HSZ).1 ?_)
    | (refine wpList_loadB (ty := 23) (t := 23) (x := .tmp 6) rfl rfl digest_wide rfl (cs := mrr) (unhide HZ).2.2.1 (unhide HSZ).2 ?_)
    | (go_at_call 35; refine (unhide HR W0).mono ?_; rintro e w1 ⟨rfl, k1, k2, k3, k4, k5⟩; have H1 := hide (And.intro k1 (And.intro k2 (And.intro k3 (And.intro k4 k5)))); clear k1 k2 k3 k4 k5))
  obtain ⟨_, k2, k3, k4, k5⟩ := And.intro trivial (unhide H1)
  obtain ⟨z1, z2, z3, z4, z5, z6⟩ := unhide HZ
  obtain ⟨hM, hl⟩ := unhide HL
  have hsz : W0.heap.size + 3 = w1.heap.size := k3.symm
  have hl1 : Reads w1 2 (.slice B log.length c) log.length (logCells log) := (hl.ext z1).ext k2
  refine (runS_any (p := Prg.signI h) 68 _ _ log (fun p ys wz => Pv.RL { w := wz, ok := fun b => w1.heap.size + 5 ≤ b, env := fun _ => none } (Pv.sigPC (Pv.sgO seed h m p).1 ++ [.lit (.int .i64 (Pv.sgO seed h m p).2)]) ys.toList) W0.heap.size w1 hl1 (fun args w => by kernel_rfl) (fun p ys wa wb hv hc => ?_) (fun wa hE hsz2 hR => ?_)).mono ?_
  · exact hv.le ⟨hc.size, fun b hb hb2 => ⟨hb2, hc.block b hb (fun hh => by omega)⟩, fun _ _ _ h => by cases h⟩
  · have hq := sign1_run seed m (unhide HS).1 (unhide HS).2 h (.slice B log.length c) log W0.heap.size w1 wa hE (by omega) (fun k hk hn => ?_) (fun w' hc => ?_) (by rw [(unhide HA).1]; exact k4) k5.1 (by rw [(unhide HA).2]; exact k5.2) (w1.heap.size + 1 + 1 + 1 + 1) (by omega) w1.heap.size (Nat.le_refl _) _ hR
    · refine hq.mono ?_
      rintro e w2 ⟨hc, hq⟩
      refine ⟨hc, ?_⟩
      rcases hq with ⟨p, i, z, A1, n1, c1, A2, n2, c2, er, q1, q2, q3⟩ | hq
      · exact .inl ⟨p, i, z, A1, n1, c1, A2, n2, c2, er, q1, q2, q3.le ⟨Nat.le_refl _, fun b _ hb => ⟨by omega, rfl⟩, fun _ _ _ h => by cases h⟩⟩
      · exact .inr hq
    · have := hl.own_lt (by omega) hn k hk
      omega
    · exact hM.past (by omega) (((hM.ext z1).ext k2).ext hE) hc
  rintro e w2 ⟨hc, hq⟩
  have hX : Hid (Ext w w2) := hide ((z1.trans k2).trans' hc (fun _ _ h => h) (fun i hi e => by omega))
  have hA2 := hide ((z4.ext k2).chg hc (by omega))
  have hO2 := hide ((z5.ext k2).chg hc (by omega))
  obtain ⟨a0, a1, a2, a3, fA, lA⟩ := (unhide hA2).cells4
  obtain ⟨o0, o1, o2, o3, fO, lO⟩ := (unhide hO2).cells4
  have HSZ2 := hide (show w1.heap.size ≤ w2.heap.size ∧ w.heap.size + 4 ≤ w1.heap.size from ⟨hc.size, by omega⟩)
  rcases hq with ⟨p, i, z, A1, n1, c1, A2, n2, c2, er, hr, rfl, hv⟩ | ⟨cc, i, hr, rfl⟩
  · have HV := hide (And.intro hr hv)
    clear hr hv hc hl1 hsz hM hl z1 z2 z3 z4 z5 z6 k2 k3 k4 k5 H1 HZ HL HR
    go_wp2
    refine bodyPost_ret (v := .tuple #[.agg #[.int .i64 0, .int .i64 0, .int .i64 0, .string noBytes], .agg #[.int .i64 z, .slice A1 n1 c1, .slice A2 n2 c2, .int .i64 er], .bool true]) (by simp [results, Tryz.results10, go_sem, a0, a1, a2, a3, o0, o1, o2, o3]) rfl ⟨?_, ?_⟩
    · have hx1 := unhide hX
      repeat' (first | (with_reducible exact Chg.refl _ _) | (with_reducible exact Ext.refl _) | (with_reducible assumption) | (with_reducible refine Chg.alloc ?_ _) | (with_reducible refine Chg.drew ?_) | (with_reducible refine Chg.drewN ?_ _) | (with_reducible refine Chg.setCell ?_ ?_ _) | (with_reducible refine Ext.alloc ?_ _) | (with_reducible refine Ext.drew ?_) | (with_reducible refine Ext.drewN ?_ _) | (with_reducible refine Ext.setCell ?_ ?_ _) | (simp; done) | (simp; omega) | omega)
    · refine .inl ⟨p, i, z, A1, n1, c1, A2, n2, c2, er, (unhide HV).1, rfl, ?_⟩
      have hz := unhide HSZ2
      refine (unhide HV).2.le ?_
      generalize hw3 : World.setCell _ _ _ = w3
      have hcc : Chg (fun k => k = w.heap.size + 1 + 1 ∨ k = w.heap.size + 1 + 1 + 1) w2 w3 := by
        rw [← hw3]
        repeat' (first | (with_reducible exact Chg.refl _ _) | (with_reducible exact Ext.refl _) | (with_reducible assumption) | (with_reducible refine Chg.alloc ?_ _) | (with_reducible refine Chg.drew ?_) | (with_reducible refine Chg.drewN ?_ _) | (with_reducible refine Chg.setCell ?_ ?_ _) | (with_reducible refine Ext.alloc ?_ _) | (with_reducible refine Ext.drew ?_) | (with_reducible refine Ext.drewN ?_ _) | (with_reducible refine Ext.setCell ?_ ?_ _) | (simp; done) | (simp; omega) | omega)
      exact ⟨hcc.size, fun b hb (hok : w1.heap.size + 5 ≤ b) => ⟨(by show w.heap.size ≤ b; omega), hcc.block b hb (fun hh => by omega)⟩, fun _ _ _ h => by cases h⟩
  · have HV := hide hr
    clear hr hc hl1 hsz hM hl z1 z2 z3 z4 z5 z6 k2 k3 k4 k5 H1 HZ HL HR
    obtain ⟨ck, cb, cc', cx⟩ := cc
    simp only [Acc.v]
    go_wp2
    refine bodyPost_ret (v := .tuple #[.agg #[.int .i64 ck, .int .i64 cb, .int .i64 cc', .string cx], .agg #[.int .i64 0, .slice none 0 0, .slice none 0 0, .int .i64 0], .bool false]) (by simp [results, Tryz.results10, go_sem, a0, a1, a2, a3, o0, o1, o2, o3]) rfl ⟨?_, ?_⟩
    · have hx1 := unhide hX
      repeat' (first | (with_reducible exact Chg.refl _ _) | (with_reducible exact Ext.refl _) | (with_reducible assumption) | (with_reducible refine Chg.alloc ?_ _) | (with_reducible refine Chg.drew ?_) | (with_reducible refine Chg.drewN ?_ _) | (with_reducible refine Chg.setCell ?_ ?_ _) | (with_reducible refine Ext.alloc ?_ _) | (with_reducible refine Ext.drew ?_) | (with_reducible refine Ext.drewN ?_ _) | (with_reducible refine Ext.setCell ?_ ?_ _) | (simp; done) | (simp; omega) | omega)
    · exact .inr ⟨_, i, unhide HV, rfl⟩
end Go.Proofs.YtplkplegjoabgaaGreatDoor


namespace Go.Proofs.YtplkplegjoabgaaGreatDoor
open Go.RowKit
def unitV : Unit → Value := fun _ => .tuple #[]
def intV : Int → Value := fun n => .int .i64 n
def boolV : Bool → Value := fun b => .bool b
def natV : Nat → Value := fun n => .int .i64 n
def pairV : Nat × Int → Value := fun p => .tuple #[.int .i64 p.1, .int .i64 p.2]
theorem nonzero_snoc (l : List Int) (x : Int) : nonzero (l ++ [x]) = nonzero l + if x = 0 then 0 else 1 := by
  unfold nonzero
  rw [List.filter_append, List.length_append]
  by_cases h : x = 0 <;> simp [h]
theorem nonzero_le (l : List Int) : nonzero l ≤ l.length := List.length_filter_le _ _
def Prg.readFrom (bank bit : Int) : Nat → List Int → Prg Bool
  | 0, l => .ret (majorityB l)
  | n + 1, l => (Prg.fuse bank (3 * bit + ((2 - n : Nat) : Int))).bind fun x => Prg.readFrom bank bit n (l ++ [x])
def Prg.pulseFrom (bank bit : Int) : Nat → Prg Unit
  | 0 => .ret ()
  | n + 1 => (Prg.pulse bank (3 * bit + ((2 - n : Nat) : Int))).bind fun _ => Prg.pulseFrom bank bit n
theorem field_res0 (x y : Value) (w : World) : (Instr.field 106 (.agg #[x, y]) 0).run Tryz.prog w = .ok x w := by kernel_rfl
theorem field_res1 (x y : Value) (w : World) : (Instr.field 106 (.agg #[x, y]) 1).run Tryz.prog w = .ok y w := by kernel_rfl
attribute [local go_sem] field_res0 field_res1
structure CurSt where
  i : Nat
  ask : Acc
  stop : Bool
def zeroAcc : Acc := ⟨0, 0, 0, noBytes⟩
def curCells (lv : Value) (s : CurSt) : Array Value :=
  #[lv, .int .i64 (s.i : Int), .int .i64 s.ask.kind, .int .i64 s.ask.bank, .int .i64 s.ask.cell, .string s.ask.bytes, .bool s.stop, .bool false, .slice none 0 0, .slice none 0 0,
    .int .u8 0, .int .u8 0, .int .u8 0, .int .u8 0, .int .u8 0, .int .u8 0, .int .u8 0, .int .u8 0, .int .u8 0, .int .u8 0, .int .u8 0, .int .u8 0, .int .u8 0, .int .u8 0, .int .u8 0, .int .u8 0, .slice none 0 0, .bool false]
structure CurInv (c : Nat) (lv : Value) (log : List Res) (s : CurSt) (w : World) : Prop where
  blk : Blk w c 99 (curCells lv s)
  reads : Reads w 2 lv log.length (logCells log)
  own : 0 < log.length → lv.ownBlock ≠ some c
  le : s.i ≤ log.length
theorem CurInv.ext {c : Nat} {lv : Value} {log : List Res} {s : CurSt} {w w' : World} (h : CurInv c lv log s w) (hc : Ext w w') : CurInv c lv log s w' := ⟨h.blk.ext hc, h.reads.ext hc, h.own, h.le⟩
theorem CurInv.chg {c : Nat} {lv : Value} {log : List Res} {s s' : CurSt} {w w' : World} (h : CurInv c lv log s w) (hc : Chg (fun k => k = c) w w') (hb : Blk w' c 99 (curCells lv s')) (hi : s'.i ≤ log.length) : CurInv c lv log s' w' :=
  ⟨hb, h.reads.chg hc (fun _ hn hk e => h.own hn (e ▸ hk)), h.own, hi⟩
def curStep (log : List Res) (a : Acc) (s : CurSt) : Res × CurSt :=
  if s.stop then (⟨0, noBytes⟩, s) else match log[s.i]? with
    | some r => (r, { s with i := s.i + 1 })
    | none => (⟨0, noBytes⟩, { s with stop := true, ask := a })
set_option maxRecDepth 100000 in
set_option maxHeartbeats 1000000 in
theorem cur_do (c : Nat) (lv : Value) (log : List Res) (a : Acc) (s : CurSt) (w : World) (h : CurInv c lv log s w) :
    Calls Tryz.prog 168 #[.pointer (some ⟨c, 0, none⟩), a.v] w fun e w' => e = .returned (curStep log a s).1.v ∧ CurInv c lv log (curStep log a s).2 w' ∧ Chg (fun k => k = c) w w' := by
  have c0 := h.blk.cell 0
  have c1 := h.blk.cell 1
  have c2 := h.blk.cell 2
  have c3 := h.blk.cell 3
  have c4 := h.blk.cell 4
  have c5 := h.blk.cell 5
  have c6 := h.blk.cell 6
  have c7 := h.blk.cell 7
  simp only [curCells, List.getElem?_toArray, List.getElem?_cons_zero, List.getElem?_cons_succ] at c0 c1 c2 c3 c4 c5 c6 c7
  have f0 := h.blk.frozen
  have lc := h.blk.lt
  have hmx := h.reads.len_le
  unfold maxLen at hmx
  have HH := hide h
  obtain ⟨i, sk, stop⟩ := s
  obtain ⟨ak, ab, ac, ax⟩ := a
  obtain ⟨_, B, cp, rfl, hnc, hcm, _⟩ := h.reads
  clear h hnc hcm
  simp only [Acc.v] at *
  cases stop with
  | true =>
    go_enter Tryz.func168, Tryz.ntmps168
    go_wp2
    refine bodyPost_ret (v := .agg #[.int .i64 0, .string { data := #[] }]) (by simp [results, Tryz.results168, go_sem]) rfl ⟨rfl, (unhide HH).ext ?_, ?_⟩
    · repeat' (first | (with_reducible exact Chg.refl _ _) | (with_reducible exact Ext.refl _) | (with_reducible assumption) | (with_reducible refine Chg.alloc ?_ _) | (with_reducible refine Chg.drew ?_) | (with_reducible refine Chg.drewN ?_ _) | (with_reducible refine Chg.setCell ?_ ?_ _) | (with_reducible refine Ext.alloc ?_ _) | (with_reducible refine Ext.drew ?_) | (with_reducible refine Ext.drewN ?_ _) | (with_reducible refine Ext.setCell ?_ ?_ _) | (simp; done) | (simp; omega) | omega)
    · repeat' (first | (with_reducible exact Chg.refl _ _) | (with_reducible exact Ext.refl _) | (with_reducible assumption) | (with_reducible refine Chg.alloc ?_ _) | (with_reducible refine Chg.drew ?_) | (with_reducible refine Chg.drewN ?_ _) | (with_reducible refine Chg.setCell ?_ ?_ _) | (with_reducible refine Ext.alloc ?_ _) | (with_reducible refine Ext.drew ?_) | (with_reducible refine Ext.drewN ?_ _) | (with_reducible refine Ext.setCell ?_ ?_ _) | (simp; done) | (simp; omega) | omega)
  | false =>
    by_cases hlt : i < log.length
    · obtain ⟨b, o, c', u1, u2, hv, _, _, hb, hu1, hu2, hc1, hc2⟩ := (unhide HH).reads.at2 hlt
      cases hv
      have hbc : ¬ b = c := fun e => (unhide HH).own (by omega) (by rw [e]; rfl)
      rw [(logCells_get log i).1, List.getElem?_eq_getElem hlt] at hu1
      rw [(logCells_get log i).2, List.getElem?_eq_getElem hlt] at hu2
      cases hu1
      cases hu2
      have R : Hid (log[i]? = some log[i]) := hide (List.getElem?_eq_getElem hlt)
      generalize log[i] = r at *
      have hli : ¬ log.length ≤ i := by omega
      have hi0 : (0 : Int) ≤ (i : Int) := by omega
      have hi1 : (i : Int) < (log.length : Int) := by omega
      go_enter Tryz.func168, Tryz.ntmps168
      go_wp2
      go_quiet (fail)
      go_wp2
      generalize hW : World.setCell (World.drewN _ _) _ _ = wx
      have hx : Chg (fun k => k = c) w wx := by
        subst hW
        repeat' (first | (with_reducible exact Chg.refl _ _) | (with_reducible exact Ext.refl _) | (with_reducible assumption) | (with_reducible refine Chg.alloc ?_ _) | (with_reducible refine Chg.drew ?_) | (with_reducible refine Chg.drewN ?_ _) | (with_reducible refine Chg.setCell ?_ ?_ _) | (with_reducible refine Ext.alloc ?_ _) | (with_reducible refine Ext.drew ?_) | (with_reducible refine Ext.drewN ?_ _) | (with_reducible refine Ext.setCell ?_ ?_ _) | (simp; done) | (simp; omega) | omega)
      have hcur : Blk wx c 99 (curCells (.slice (some ⟨b, o, none⟩) log.length cp) ⟨i + 1, sk, false⟩) := by
        subst hW
        exact (((unhide HH).blk.alloc _).alloc _).set_ 1 _
      have hres : Blk wx (w.heap.size + 1) 106 #[.int .i64 0, .string { data := #[] }] := by
        subst hW
        exact (Blk.new' _ _ _ (by simp)).far (by simp; omega) _
      have d1 := hx.cellv hc1 hbc
      have d2 := hx.cellv hc2 hbc
      have e0 := hcur.cell 0
      have e1 := hcur.cell 1
      simp only [curCells, List.getElem?_toArray, List.getElem?_cons_zero, List.getElem?_cons_succ] at e0 e1
      obtain ⟨r0, r1, fr, lr⟩ := hres.cells2
      have HX := hide (And.intro hx (And.intro hcur hres))
      clear hW hx hcur hres c0 c1 c2 c3 c4 c5 c6 c7 hc1 hc2 f0
      go_region
      all_goals go_wp2
      have hne : ¬ c = w.heap.size + 1 := by omega
      have he : curStep log ⟨ak, ab, ac, ax⟩ ⟨i, sk, false⟩ = (r, ⟨i + 1, sk, false⟩) := by unfold curStep; simp only [unhide R]; rfl
      refine bodyPost_ret (v := .agg #[.int .i64 r.val, .string r.bytes]) (by simp [results, Tryz.results168, go_sem, r0, r1]) rfl ?_
      rw [he]
      have hx := (unhide HX).1
      have hx2 : Chg (fun k => k = c) w (((wx.setCell ⟨w.heap.size + 1, 0, none⟩ (.int .i64 r.val)).setCell ⟨w.heap.size + 1, 1, none⟩ (.string r.bytes)).drew) := by
        repeat' (first | (with_reducible exact Chg.refl _ _) | (with_reducible exact Ext.refl _) | (with_reducible assumption) | (with_reducible refine Chg.alloc ?_ _) | (with_reducible refine Chg.drew ?_) | (with_reducible refine Chg.drewN ?_ _) | (with_reducible refine Chg.setCell ?_ ?_ _) | (with_reducible refine Ext.alloc ?_ _) | (with_reducible refine Ext.drew ?_) | (with_reducible refine Ext.drewN ?_ _) | (with_reducible refine Ext.setCell ?_ ?_ _) | (simp; done) | (simp; omega) | omega)
      exact ⟨rfl, (unhide HH).chg hx2 ((((unhide HX).2.1.far (p := ⟨w.heap.size + 1, 0, none⟩) hne _).far (p := ⟨w.heap.size + 1, 1, none⟩) hne _).drew) hlt, hx2⟩
    · have R : Hid (log[i]? = none) := hide (List.getElem?_eq_none (by omega))
      have hli : log.length ≤ i := by omega
      go_enter Tryz.func168, Tryz.ntmps168
      go_wp2
      go_quiet (fail)
      go_wp2
      refine bodyPost_ret (v := .agg #[.int .i64 0, .string { data := #[] }]) (by simp [results, Tryz.results168, go_sem]) rfl ?_
      have he : curStep log ⟨ak, ab, ac, ax⟩ ⟨i, sk, false⟩ = (⟨0, noBytes⟩, ⟨i, ⟨ak, ab, ac, ax⟩, true⟩) := by unfold curStep; simp only [unhide R]; rfl
      rw [he]
      refine ⟨rfl, (unhide HH).chg ?_ ?_ (unhide HH).le, ?_⟩
      · repeat' (first | (with_reducible exact Chg.refl _ _) | (with_reducible exact Ext.refl _) | (with_reducible assumption) | (with_reducible refine Chg.alloc ?_ _) | (with_reducible refine Chg.drew ?_) | (with_reducible refine Chg.drewN ?_ _) | (with_reducible refine Chg.setCell ?_ ?_ _) | (with_reducible refine Ext.alloc ?_ _) | (with_reducible refine Ext.drew ?_) | (with_reducible refine Ext.drewN ?_ _) | (with_reducible refine Ext.setCell ?_ ?_ _) | (simp; done) | (simp; omega) | omega)
      · have hne : ¬ c = w.heap.size + 1 := by omega
        exact ((((((((((unhide HH).blk.alloc _).alloc _).drewN nq).set_ 6 _).set_ 2 _).set_ 3 _).set_ 4 _).set_ 5 _).far (p := ⟨w.heap.size + 1, 0, none⟩) hne _).far (p := ⟨w.heap.size + 1, 1, none⟩) hne _
      · repeat' (first | (with_reducible exact Chg.refl _ _) | (with_reducible exact Ext.refl _) | (with_reducible assumption) | (with_reducible refine Chg.alloc ?_ _) | (with_reducible refine Chg.drew ?_) | (with_reducible refine Chg.drewN ?_ _) | (with_reducible refine Chg.setCell ?_ ?_ _) | (with_reducible refine Ext.alloc ?_ _) | (with_reducible refine Ext.drew ?_) | (with_reducible refine Ext.drewN ?_ _) | (with_reducible refine Ext.setCell ?_ ?_ _) | (simp; done) | (simp; omega) | omega)
def curRun {α : Type} (log : List Res) (p : Prg α) (s : CurSt) : Option α × CurSt :=
  if s.stop then (none, s) else match p.run (replay log) s.i with
    | .ok a i => (some a, { s with i := i })
    | .error a i => (none, { s with i := i, stop := true, ask := a })
theorem curRun_stop {α : Type} {log : List Res} {p : Prg α} {s : CurSt} (h : s.stop = true) : curRun log p s = (none, s) := by unfold curRun; rw [if_pos h]
theorem curRun_ret {α : Type} {log : List Res} {a : α} {s : CurSt} (h : s.stop = false) : curRun log (.ret a) s = (some a, s) := by unfold curRun; rw [if_neg (by simp [h])]; rfl
theorem curRun_bind {α β : Type} {log : List Res} {p : Prg α} {f : α → Prg β} {s : CurSt} {a : α} (h : ∀ a', (curRun log p s).1 = some a' → a = a') : curRun log (p.bind f) s = curRun log (f a) (curRun log p s).2 := by
  by_cases hs : s.stop = true
  · rw [curRun_stop hs, curRun_stop hs]; exact (curRun_stop hs).symm
  · cases hr : p.run (replay log) s.i with
    | ok b i =>
      have e : curRun log p s = (some b, { s with i := i }) := by unfold curRun; rw [if_neg hs, hr]
      obtain rfl := h b (by rw [e])
      rw [e]
      unfold curRun
      rw [if_neg hs, if_neg (show ¬ ({ s with i := i } : CurSt).stop = true from hs), Prg.run_bind_ok hr]
    | error b i =>
      have e : curRun log p s = (none, { s with i := i, stop := true, ask := b }) := by unfold curRun; rw [if_neg hs, hr]
      rw [e, curRun_stop (s := { s with i := i, stop := true, ask := b }) rfl]
      unfold curRun
      rw [if_neg hs, Prg.run_bind_error hr]
structure CurPost {α : Type} (c : Nat) (lv : Value) (log : List Res) (val : α → Value) (p : Prg α) (s : CurSt) (w : World) (e : Ending) (w' : World) : Prop where
  ex : ∃ a : α, e = .returned (val a) ∧ ∀ a', (curRun log p s).1 = some a' → a = a'
  inv : CurInv c lv log (curRun log p s).2 w'
  chg : Chg (fun k => k = c) w w'
theorem curRun_ask {log : List Res} (a : Acc) (s : CurSt) : (∀ r, (curRun log (.ask a .ret) s).1 = some r → (curStep log a s).1 = r) ∧ (curRun log (.ask a .ret) s).2 = (curStep log a s).2 := by
  unfold curRun curStep
  by_cases hs : s.stop = true
  · rw [if_pos hs, if_pos hs]
    refine ⟨fun r h => ?_, rfl⟩
    cases h
  · rw [if_neg hs, if_neg hs]
    simp only [Prg.run, replay]
    cases h : log[s.i]? with
    | none =>
      refine ⟨fun r h => ?_, rfl⟩
      cases h
    | some r =>
      refine ⟨fun r' h => ?_, rfl⟩
      cases h
      rfl
theorem curRun_ret2 {α : Type} {log : List Res} {a : α} {s : CurSt} : (curRun log (.ret a) s).2 = s := by
  cases hs : s.stop
  · rw [curRun_ret hs]
  · rw [curRun_stop hs]
theorem curRun_ret1 {α : Type} {log : List Res} {a a' : α} {s : CurSt} (h : (curRun log (.ret a) s).1 = some a') : a = a' := by
  cases hs : s.stop
  · rw [curRun_ret hs] at h; cases h; rfl
  · rw [curRun_stop hs] at h; cases h
theorem cur_fuse (c : Nat) (lv : Value) (log : List Res) (a b : Int) (s : CurSt) (w : World) (h : CurInv c lv log s w) :
    Calls Tryz.prog 134 #[.pointer (some ⟨c, 0, none⟩), .int .i64 a, .int .i64 b] w (CurPost c lv log intV (Prg.fuse a b) s w) := by
  have HI := hide h
  clear h
  go_enter Tryz.func134, Tryz.ntmps134
  go_wp2_with fail
  refine (cur_do c lv log ⟨1, a, b, noBytes⟩ s w (unhide HI)).mono ?_
  rintro e w1 ⟨rfl, h1, h2⟩
  have hk := curRun_ask (log := log) ⟨1, a, b, noBytes⟩ s
  have hq : curRun log (Prg.fuse a b) s = curRun log (.ret (curStep log ⟨1, a, b, noBytes⟩ s).1.val) (curStep log ⟨1, a, b, noBytes⟩ s).2 := by
    rw [← hk.2]
    exact curRun_bind (p := .ask ⟨1, a, b, noBytes⟩ .ret) (f := fun r => .ret r.val) hk.1
  have HQ := hide hq
  have HC := hide (And.intro h1 h2)
  clear h1 h2 hk hq
  generalize curStep log ⟨1, a, b, noBytes⟩ s = q at *
  obtain ⟨⟨rv, rb⟩, s'⟩ := q
  simp only [Res.v]
  go_wp2
  go_ret
  refine ⟨⟨rv, rfl, fun a' ha => curRun_ret1 (by rw [← unhide HQ]; exact ha)⟩, ?_, ?_⟩
  · rw [unhide HQ, curRun_ret2]
    refine (unhide HC).1.ext ?_
    repeat' (first | (with_reducible exact Chg.refl _ _) | (with_reducible exact Ext.refl _) | (with_reducible assumption) | (with_reducible refine Chg.alloc ?_ _) | (with_reducible refine Chg.drew ?_) | (with_reducible refine Chg.drewN ?_ _) | (with_reducible refine Chg.setCell ?_ ?_ _) | (with_reducible refine Ext.alloc ?_ _) | (with_reducible refine Ext.drew ?_) | (with_reducible refine Ext.drewN ?_ _) | (with_reducible refine Ext.setCell ?_ ?_ _) | (simp; done) | (simp; omega) | omega)
  · have h1 := (unhide HC).2
    repeat' (first | (with_reducible exact Chg.refl _ _) | (with_reducible exact Ext.refl _) | (with_reducible assumption) | (with_reducible refine Chg.alloc ?_ _) | (with_reducible refine Chg.drew ?_) | (with_reducible refine Chg.drewN ?_ _) | (with_reducible refine Chg.setCell ?_ ?_ _) | (with_reducible refine Ext.alloc ?_ _) | (with_reducible refine Ext.drew ?_) | (with_reducible refine Ext.drewN ?_ _) | (with_reducible refine Ext.setCell ?_ ?_ _) | (simp; done) | (simp; omega) | omega)
theorem cur_pulse (c : Nat) (lv : Value) (log : List Res) (a b : Int) (s : CurSt) (w : World) (h : CurInv c lv log s w) :
    Calls Tryz.prog 135 #[.pointer (some ⟨c, 0, none⟩), .int .i64 a, .int .i64 b] w (CurPost c lv log unitV (Prg.pulse a b) s w) := by
  have HI := hide h
  clear h
  go_enter Tryz.func135, Tryz.ntmps135
  go_wp2_with fail
  refine (cur_do c lv log ⟨2, a, b, noBytes⟩ s w (unhide HI)).mono ?_
  rintro e w1 ⟨rfl, h1, h2⟩
  have hk := curRun_ask (log := log) ⟨2, a, b, noBytes⟩ s
  have hq : curRun log (Prg.pulse a b) s = curRun log (.ret ()) (curStep log ⟨2, a, b, noBytes⟩ s).2 := by
    rw [← hk.2]
    exact curRun_bind (p := .ask ⟨2, a, b, noBytes⟩ .ret) (f := fun r => .ret ()) hk.1
  have HQ := hide hq
  have HC := hide (And.intro h1 h2)
  clear h1 h2 hk hq
  generalize curStep log ⟨2, a, b, noBytes⟩ s = q at *
  obtain ⟨⟨rv, rb⟩, s'⟩ := q
  simp only [Res.v]
  go_wp2
  go_end0
  refine ⟨⟨(), rfl, fun a' ha => curRun_ret1 (by rw [← unhide HQ]; exact ha)⟩, ?_, (unhide HC).2⟩
  rw [unhide HQ, curRun_ret2]
  exact (unhide HC).1
end Go.Proofs.YtplkplegjoabgaaGreatDoor


namespace Go.Proofs.YtplkplegjoabgaaGreatDoor
open Go.RowKit
set_option maxHeartbeats 400000 in
theorem ref_pulse (c : Nat) (lv : Value) (log : List Res) (bank bit : Int) (hb : 0 ≤ bit ∧ bit ≤ 100000) (s : CurSt) (w : World) (h : CurInv c lv log s w) :
    Calls Tryz.prog 109 #[.pointer (some ⟨c, 0, none⟩), .int .i64 bank, .int .i64 bit] w (CurPost c lv log unitV (Prg.pulses bank bit) s w) := by
  have HI := hide h
  clear h
  go_enter Tryz.func109, Tryz.ntmps109
  go_wp2
  go_loopw [6] (fun i wr => ∃ (k : Nat) (sk : CurSt), k ≤ 3 ∧ i = .int .i64 k ∧ CurInv c lv log sk wr ∧ Chg (fun k => k = c) w wr ∧ curRun log (Prg.pulses bank bit) s = curRun log (Prg.pulseFrom bank bit (3 - k)) sk) (fun i _ => 3 - (intOf i).toNat)
  case atStart => exact ⟨0, s, by omega, rfl, unhide HI, Chg.refl _ _, rfl⟩
  case round =>
    obtain ⟨k, sk, hk, rfl, hinv, hchg, hrun⟩ := hrel
    have HR := hide hrun
    have HC := hide (And.intro hinv hchg)
    clear hrun hinv hchg
    by_cases hlt : k < 3
    · go_wp2_with fail
      refine (cur_pulse c lv log _ _ sk _ (unhide HC).1).mono ?_
      intro e w1 hp
      have hq : Prg.pulseFrom bank bit (3 - k) = (Prg.pulse bank (3 * bit + (k : Int))).bind fun _ => Prg.pulseFrom bank bit (3 - (k + 1)) := by
        rw [show 3 - k = (2 - k) + 1 from by omega, Prg.pulseFrom, show 2 - (2 - k) = k from by omega, show 3 - (k + 1) = 2 - k from by omega]
      obtain ⟨⟨a, rfl, ha⟩, h1, h2⟩ := hp
      have HN : Hid (curRun log (Prg.pulses bank bit) s = curRun log (Prg.pulseFrom bank bit (3 - (k + 1))) (curRun log (Prg.pulse bank (3 * bit + (k : Int))) sk).2) := hide (by rw [unhide HR, hq]; exact curRun_bind ha)
      have HC1 := hide (And.intro h1 ((unhide HC).2.trans h2))
      clear hq ha h1 h2 HC HR
      generalize (curRun log (Prg.pulse bank (3 * bit + (k : Int))) sk).2 = s' at *
      go_wp2
      go_roundw
      case rel => exact ⟨k + 1, s', by omega, by go_num, (unhide HC1).1, (unhide HC1).2, unhide HN⟩
      case measure => simp [intOf]; omega
    · obtain rfl : k = 3 := by omega
      go_wp2
      go_end0
      have hr : curRun log (Prg.pulses bank bit) s = curRun log (.ret ()) sk := unhide HR
      exact ⟨⟨(), rfl, fun a' ha => rfl⟩, by rw [hr, curRun_ret2]; exact (unhide HC).1, (unhide HC).2⟩
set_option maxHeartbeats 400000 in
theorem ref_bit (c : Nat) (lv : Value) (log : List Res) (bank bit : Int) (hb : 0 ≤ bit ∧ bit ≤ 100000) (s : CurSt) (w : World) (h : CurInv c lv log s w) :
    Calls Tryz.prog 108 #[.pointer (some ⟨c, 0, none⟩), .int .i64 bank, .int .i64 bit] w (CurPost c lv log boolV (Prg.read bank bit) s w) := by
  have HI := hide h
  clear h
  go_enter Tryz.func108, Tryz.ntmps108
  go_wp2
  go_loopw [7, 8] (fun n i wr => ∃ (k : Nat) (l : List Int) (sk : CurSt), k ≤ 3 ∧ i = .int .i64 k ∧ n = .int .i64 (nonzero l) ∧ l.length = k ∧ CurInv c lv log sk wr ∧ Chg (fun k => k = c) w wr ∧ curRun log (Prg.read bank bit) s = curRun log (Prg.readFrom bank bit (3 - k) l) sk) (fun _ i _ => 3 - (intOf i).toNat)
  case atStart => exact ⟨0, [], s, by omega, rfl, rfl, rfl, unhide HI, Chg.refl _ _, rfl⟩
  case round =>
    obtain ⟨k, l, sk, hk, rfl, rfl, hl, hinv, hchg, hrun⟩ := hrel
    have HR := hide hrun
    have HC := hide (And.intro hinv hchg)
    have hnz := nonzero_le l
    have hnk : nonzero l ≤ k := by omega
    have HL := hide hl
    clear hrun hinv hchg hl hnz
    by_cases hlt : k < 3
    · go_wp2_with fail
      refine (cur_fuse c lv log _ _ sk _ (unhide HC).1).mono ?_
      intro e w1 hp
      have hq : Prg.readFrom bank bit (3 - k) l = (Prg.fuse bank (3 * bit + (k : Int))).bind fun x => Prg.readFrom bank bit (3 - (k + 1)) (l ++ [x]) := by
        rw [show 3 - k = (2 - k) + 1 from by omega, Prg.readFrom, show 2 - (2 - k) = k from by omega, show 3 - (k + 1) = 2 - k from by omega]
      obtain ⟨⟨a, rfl, ha⟩, h1, h2⟩ := hp
      have HN : Hid (curRun log (Prg.read bank bit) s = curRun log (Prg.readFrom bank bit (3 - (k + 1)) (l ++ [a])) (curRun log (Prg.fuse bank (3 * bit + (k : Int))) sk).2) := hide (by rw [unhide HR, hq]; exact curRun_bind ha)
      have HC1 := hide (And.intro h1 ((unhide HC).2.trans h2))
      have HS := hide (nonzero_snoc l a)
      clear hq ha h1 h2 HC HR
      generalize (curRun log (Prg.fuse bank (3 * bit + (k : Int))) sk).2 = s' at *
      simp only [intV]
      by_cases hx : a = 0
      · have hx' : (a != 0) = false := by simp [hx]
        have HX := hide hx
        clear hx
        go_wp2
        go_roundw
        case rel => exact ⟨k + 1, l ++ [a], s', by omega, by go_num, int_eq (by rw [unhide HS, if_pos (unhide HX)]; rfl), by simp [unhide HL], (unhide HC1).1, (unhide HC1).2, unhide HN⟩
        case measure => simp [intOf]; omega
      · have hx' : (a != 0) = true := by simp [hx]
        have HX := hide hx
        clear hx
        go_wp2
        go_roundw
        case rel => exact ⟨k + 1, l ++ [a], s', by omega, by go_num, int_eq (by rw [unhide HS, if_neg (unhide HX)]; rfl), by simp [unhide HL], (unhide HC1).1, (unhide HC1).2, unhide HN⟩
        case measure => simp [intOf]; omega
    · obtain rfl : k = 3 := by omega
      go_wp2
      go_ret
      have hr : curRun log (Prg.read bank bit) s = curRun log (.ret (majorityB l)) sk := unhide HR
      refine ⟨⟨majorityB l, ret_bool (by unfold majorityB; rw [unhide HL]; exact decide_eq_decide.2 (by omega)), fun a' ha => curRun_ret1 (by rw [← hr]; exact ha)⟩, by rw [hr, curRun_ret2]; exact (unhide HC).1, (unhide HC).2⟩
theorem CurInv.stop {c : Nat} {lv : Value} {log : List Res} {s : CurSt} {w : World} (h : CurInv c lv log s w) : w.cell? ⟨c, 6, none⟩ = some (.bool s.stop) := h.blk.cell 6
set_option maxHeartbeats 1000000 in
theorem ref_levelOf (c : Nat) (lv : Value) (log : List Res) (bank : Int) (bits : Nat) (hb : bits ≤ 1000) (s : CurSt) (w : World) (h : CurInv c lv log s w) :
    Calls Tryz.prog 70 #[.pointer (some ⟨c, 0, none⟩), .int .i64 bank, .int .i64 (bits : Int)] w fun e w' => CurPost c lv log natV (Prg.levelOf bank bits) s w e w' ∧ ∃ n : Nat, n ≤ bits ∧ e = .returned (natV n) := by
  have HI := hide h
  clear h
  go_enter Tryz.func70, Tryz.ntmps70
  go_wp2
  go_loopw [7] (fun i wr => ∃ (k : Nat) (sk : CurSt), k ≤ bits ∧ i = .int .i64 k ∧ CurInv c lv log sk wr ∧ Chg (fun k => k = c) w wr ∧ curRun log (Prg.levelOf bank bits) s = curRun log ((Prg.up bank (bits - k) k).bind fun n => (Prg.down bank n 0).bind fun _ => .ret n) sk) (fun i _ => bits - (intOf i).toNat)
  case atStart => exact ⟨0, s, by omega, rfl, unhide HI, Chg.refl _ _, rfl⟩
  case round =>
    obtain ⟨k, sk, hk, rfl, hinv, hchg, hrun⟩ := hrel
    have c6 := hinv.stop
    have HR := hide hrun
    have HC := hide (And.intro hinv hchg)
    clear hrun hinv hchg
    by_cases hlt : k < bits
    · cases hst : sk.stop with
      | true =>
        rw [hst] at c6
        have HC1 := HC
        have HN : Hid (curRun log (Prg.levelOf bank bits) s = curRun log ((Prg.down bank (k - 0) 0).bind fun _ => .ret k) sk) := hide (by rw [unhide HR, curRun_stop hst, curRun_stop hst])
        clear HC HR hst
        generalize sk = s' at *
        go_wp2
        go_loopw [9] (fun i wr => ∃ (b : Nat) (sb : CurSt), b ≤ k ∧ i = .int .i64 b ∧ CurInv c lv log sb wr ∧ Chg (fun k => k = c) w wr ∧ curRun log (Prg.levelOf bank bits) s = curRun log ((Prg.down bank (k - b) b).bind fun _ => .ret k) sb) (fun i _ => k - (intOf i).toNat)
        case atStart => exact ⟨0, s', by omega, rfl, (unhide HC1).1, (unhide HC1).2, unhide HN⟩
        case round =>
          obtain ⟨b, sb, hbk, rfl, hinv, hchg, hrun⟩ := hrel
          have c6 := hinv.stop
          have HR := hide hrun
          have HC := hide (And.intro hinv hchg)
          clear hrun hinv hchg HC1 HN
          by_cases hlb : b < k
          · cases hst : sb.stop with
            | true =>
              rw [hst] at c6
              have HS := hide hst
              clear hst
              go_wp2
              go_ret
              exact ⟨⟨⟨k, rfl, fun a' ha => by rw [unhide HR, curRun_stop (unhide HS)] at ha; cases ha⟩, by rw [unhide HR, curRun_stop (unhide HS)]; exact (unhide HC).1, (unhide HC).2⟩, k, by omega, rfl⟩
            | false =>
              rw [hst] at c6
              clear hst
              go_wp2_with fail
              refine (ref_pulse c lv log bank b ⟨by omega, by omega⟩ sb _ (unhide HC).1).mono ?_
              intro e w2 hp
              have hq : (Prg.down bank (k - b) b) = (Prg.pulses bank b).bind fun _ => Prg.down bank (k - (b + 1)) (b + 1) := by
                rw [show k - b = (k - (b + 1)) + 1 from by omega, Prg.down]
              obtain ⟨⟨a, rfl, ha⟩, h1, h2⟩ := hp
              have HN : Hid (curRun log (Prg.levelOf bank bits) s = curRun log ((Prg.down bank (k - (b + 1)) (b + 1)).bind fun _ => .ret k) (curRun log (Prg.pulses bank b) sb).2) := hide (by rw [unhide HR, hq, Prg.bind_assoc]; exact curRun_bind ha)
              have HC1 := hide (And.intro h1 ((unhide HC).2.trans h2))
              clear hq ha h1 h2 HC HR c6
              generalize (curRun log (Prg.pulses bank b) sb).2 = s2 at *
              simp only [unitV]
              go_wp2
              go_roundw
              case rel => exact ⟨b + 1, s2, by omega, by go_num, (unhide HC1).1, (unhide HC1).2, unhide HN⟩
              case measure => simp [intOf]; omega
          · obtain rfl : b = k := by omega
            go_wp2
            go_ret
            have hr : curRun log (Prg.levelOf bank bits) s = curRun log (.ret b) sb := by rw [unhide HR, Nat.sub_self]; rfl
            exact ⟨⟨⟨b, rfl, fun a' ha => curRun_ret1 (by rw [← hr]; exact ha)⟩, by rw [hr, curRun_ret2]; exact (unhide HC).1, (unhide HC).2⟩, b, by omega, rfl⟩
      | false =>
        rw [hst] at c6
        clear hst
        go_wp2_with fail
        refine (ref_bit c lv log bank k ⟨by omega, by omega⟩ sk _ (unhide HC).1).mono ?_
        intro e w1 hp
        have hq : (Prg.up bank (bits - k) k) = (Prg.read bank k).bind fun b => if b then Prg.up bank (bits - (k + 1)) (k + 1) else .ret k := by
          rw [show bits - k = (bits - (k + 1)) + 1 from by omega, Prg.up]
        obtain ⟨⟨x, rfl, ha⟩, h1, h2⟩ := hp
        have HN : Hid (curRun log (Prg.levelOf bank bits) s = curRun log ((if x then Prg.up bank (bits - (k + 1)) (k + 1) else .ret k).bind fun n => (Prg.down bank n 0).bind fun _ => .ret n) (curRun log (Prg.read bank k) sk).2) := hide (by rw [unhide HR, hq, Prg.bind_assoc]; exact curRun_bind ha)
        have HC1 := hide (And.intro h1 ((unhide HC).2.trans h2))
        clear hq ha h1 h2 HC HR c6
        generalize (curRun log (Prg.read bank k) sk).2 = s' at *
        simp only [boolV]
        cases x with
        | true =>
          go_wp2
          go_roundw
          case rel => exact ⟨k + 1, s', by omega, by go_num, (unhide HC1).1, (unhide HC1).2, unhide HN⟩
          case measure => simp [intOf]; omega
        | false =>
          go_wp2
          go_loopw [9] (fun i wr => ∃ (b : Nat) (sb : CurSt), b ≤ k ∧ i = .int .i64 b ∧ CurInv c lv log sb wr ∧ Chg (fun k => k = c) w wr ∧ curRun log (Prg.levelOf bank bits) s = curRun log ((Prg.down bank (k - b) b).bind fun _ => .ret k) sb) (fun i _ => k - (intOf i).toNat)
          case atStart => exact ⟨0, s', by omega, rfl, (unhide HC1).1, (unhide HC1).2, unhide HN⟩
          case round =>
            obtain ⟨b, sb, hbk, rfl, hinv, hchg, hrun⟩ := hrel
            have c6 := hinv.stop
            have HR := hide hrun
            have HC := hide (And.intro hinv hchg)
            clear hrun hinv hchg HC1 HN
            by_cases hlb : b < k
            · cases hst : sb.stop with
              | true =>
                rw [hst] at c6
                have HS := hide hst
                clear hst
                go_wp2
                go_ret
                exact ⟨⟨⟨k, rfl, fun a' ha => by rw [unhide HR, curRun_stop (unhide HS)] at ha; cases ha⟩, by rw [unhide HR, curRun_stop (unhide HS)]; exact (unhide HC).1, (unhide HC).2⟩, k, by omega, rfl⟩
              | false =>
                rw [hst] at c6
                clear hst
                go_wp2_with fail
                refine (ref_pulse c lv log bank b ⟨by omega, by omega⟩ sb _ (unhide HC).1).mono ?_
                intro e w2 hp
                have hq : (Prg.down bank (k - b) b) = (Prg.pulses bank b).bind fun _ => Prg.down bank (k - (b + 1)) (b + 1) := by
                  rw [show k - b = (k - (b + 1)) + 1 from by omega, Prg.down]
                obtain ⟨⟨a, rfl, ha⟩, h1, h2⟩ := hp
                have HN : Hid (curRun log (Prg.levelOf bank bits) s = curRun log ((Prg.down bank (k - (b + 1)) (b + 1)).bind fun _ => .ret k) (curRun log (Prg.pulses bank b) sb).2) := hide (by rw [unhide HR, hq, Prg.bind_assoc]; exact curRun_bind ha)
                have HC1 := hide (And.intro h1 ((unhide HC).2.trans h2))
                clear hq ha h1 h2 HC HR c6
                generalize (curRun log (Prg.pulses bank b) sb).2 = s2 at *
                simp only [unitV]
                go_wp2
                go_roundw
                case rel => exact ⟨b + 1, s2, by omega, by go_num, (unhide HC1).1, (unhide HC1).2, unhide HN⟩
                case measure => simp [intOf]; omega
            · obtain rfl : b = k := by omega
              go_wp2
              go_ret
              have hr : curRun log (Prg.levelOf bank bits) s = curRun log (.ret b) sb := by rw [unhide HR, Nat.sub_self]; rfl
              exact ⟨⟨⟨b, rfl, fun a' ha => curRun_ret1 (by rw [← hr]; exact ha)⟩, by rw [hr, curRun_ret2]; exact (unhide HC).1, (unhide HC).2⟩, b, by omega, rfl⟩
    · have HC1 := HC
      have HN : Hid (curRun log (Prg.levelOf bank bits) s = curRun log ((Prg.down bank (k - 0) 0).bind fun _ => .ret k) sk) := hide (by rw [unhide HR, show bits - k = 0 from by omega]; rfl)
      clear HC HR
      generalize sk = s' at *
      go_wp2
      go_loopw [9] (fun i wr => ∃ (b : Nat) (sb : CurSt), b ≤ k ∧ i = .int .i64 b ∧ CurInv c lv log sb wr ∧ Chg (fun k => k = c) w wr ∧ curRun log (Prg.levelOf bank bits) s = curRun log ((Prg.down bank (k - b) b).bind fun _ => .ret k) sb) (fun i _ => k - (intOf i).toNat)
      case atStart => exact ⟨0, s', by omega, rfl, (unhide HC1).1, (unhide HC1).2, unhide HN⟩
      case round =>
        obtain ⟨b, sb, hbk, rfl, hinv, hchg, hrun⟩ := hrel
        have c6 := hinv.stop
        have HR := hide hrun
        have HC := hide (And.intro hinv hchg)
        clear hrun hinv hchg HC1 HN
        by_cases hlb : b < k
        · cases hst : sb.stop with
          | true =>
            rw [hst] at c6
            have HS := hide hst
            clear hst
            go_wp2
            go_ret
            exact ⟨⟨⟨k, rfl, fun a' ha => by rw [unhide HR, curRun_stop (unhide HS)] at ha; cases ha⟩, by rw [unhide HR, curRun_stop (unhide HS)]; exact (unhide HC).1, (unhide HC).2⟩, k, by omega, rfl⟩
          | false =>
            rw [hst] at c6
            clear hst
            go_wp2_with fail
            refine (ref_pulse c lv log bank b ⟨by omega, by omega⟩ sb _ (unhide HC).1).mono ?_
            intro e w2 hp
            have hq : (Prg.down bank (k - b) b) = (Prg.pulses bank b).bind fun _ => Prg.down bank (k - (b + 1)) (b + 1) := by
              rw [show k - b = (k - (b + 1)) + 1 from by omega, Prg.down]
            obtain ⟨⟨a, rfl, ha⟩, h1, h2⟩ := hp
            have HN : Hid (curRun log (Prg.levelOf bank bits) s = curRun log ((Prg.down bank (k - (b + 1)) (b + 1)).bind fun _ => .ret k) (curRun log (Prg.pulses bank b) sb).2) := hide (by rw [unhide HR, hq, Prg.bind_assoc]; exact curRun_bind ha)
            have HC1 := hide (And.intro h1 ((unhide HC).2.trans h2))
            clear hq ha h1 h2 HC HR c6
            generalize (curRun log (Prg.pulses bank b) sb).2 = s2 at *
            simp only [unitV]
            go_wp2
            go_roundw
            case rel => exact ⟨b + 1, s2, by omega, by go_num, (unhide HC1).1, (unhide HC1).2, unhide HN⟩
            case measure => simp [intOf]; omega
        · obtain rfl : b = k := by omega
          go_wp2
          go_ret
          have hr : curRun log (Prg.levelOf bank bits) s = curRun log (.ret b) sb := by rw [unhide HR, Nat.sub_self]; rfl
          exact ⟨⟨⟨b, rfl, fun a' ha => curRun_ret1 (by rw [← hr]; exact ha)⟩, by rw [hr, curRun_ret2]; exact (unhide HC).1, (unhide HC).2⟩, b, by omega, rfl⟩
set_option maxHeartbeats 1000000 in
theorem ref_raiseTo (c : Nat) (lv : Value) (log : List Res) (bank : Int) (bits target : Nat) (hb : bits ≤ 1000) (ht : target ≤ 1000) (s : CurSt) (w : World) (h : CurInv c lv log s w) :
    Calls Tryz.prog 71 #[.pointer (some ⟨c, 0, none⟩), .int .i64 bank, .int .i64 (bits : Int), .int .i64 (target : Int)] w (CurPost c lv log pairV (Prg.raiseTo bank bits target) s w) := by
  have HI := hide h
  clear h
  go_enter Tryz.func71, Tryz.ntmps71
  go_wp2_with fail
  refine (ref_levelOf c lv log bank bits hb s _ (unhide HI)).mono ?_
  rintro e w1 ⟨⟨⟨a, rfl, ha⟩, h1, h2⟩, n, hn, he⟩
  have hna : a = n := by
    simp only [natV] at he
    injection he with he
    injection he with _ he
    exact_mod_cast he
  subst hna
  have HN : Hid (curRun log (Prg.raiseTo bank bits target) s = curRun log (Prg.raiseFrom bank (target - a) a) (curRun log (Prg.levelOf bank bits) s).2) := hide (curRun_bind ha)
  have HC1 := hide (And.intro h1 h2)
  clear he h1 h2 ha HI
  generalize (curRun log (Prg.levelOf bank bits) s).2 = s1 at *
  simp only [natV]
  go_wp2
  go_loopw [10] (fun i wr => ∃ (k : Nat) (sk : CurSt), (k ≤ bits ∨ k ≤ target) ∧ i = .int .i64 k ∧ CurInv c lv log sk wr ∧ Chg (fun k => k = c) w wr ∧ curRun log (Prg.raiseTo bank bits target) s = curRun log (Prg.raiseFrom bank (target - k) k) sk) (fun i _ => target - (intOf i).toNat)
  case atStart => exact ⟨a, s1, .inl hn, rfl, (unhide HC1).1, (unhide HC1).2, unhide HN⟩
  case round =>
    obtain ⟨k, sk, hk, rfl, hinv, hchg, hrun⟩ := hrel
    have c6 := hinv.stop
    have HR := hide hrun
    have HC := hide (And.intro hinv hchg)
    clear hrun hinv hchg HC1 HN
    by_cases hlt : k < target
    · have hk' : k ≤ 1000 := by omega
      clear hk
      cases hst : sk.stop with
      | true =>
        rw [hst] at c6
        have HS := hide hst
        clear hst
        go_wp2
        go_ret2
        exact ⟨⟨(k, 0), rfl, fun a' ha => by rw [unhide HR, curRun_stop (unhide HS)] at ha; cases ha⟩, by rw [unhide HR, curRun_stop (unhide HS)]; exact (unhide HC).1, (unhide HC).2⟩
      | false =>
        rw [hst] at c6
        clear hst
        go_wp2_with fail
        refine (ref_pulse c lv log bank k ⟨by omega, by omega⟩ sk _ (unhide HC).1).mono ?_
        intro e w2 hp
        have hq : (Prg.raiseFrom bank (target - k) k) = (Prg.pulses bank k).bind fun _ => (Prg.read bank k).bind fun b => if b then Prg.raiseFrom bank (target - (k + 1)) (k + 1) else .ret (k, 12) := by
          rw [show target - k = (target - (k + 1)) + 1 from by omega, Prg.raiseFrom]
        obtain ⟨⟨u, rfl, ha⟩, h1, h2⟩ := hp
        have HN : Hid (curRun log (Prg.raiseTo bank bits target) s = curRun log ((Prg.read bank k).bind fun b => if b then Prg.raiseFrom bank (target - (k + 1)) (k + 1) else .ret (k, 12)) (curRun log (Prg.pulses bank k) sk).2) := hide (by rw [unhide HR, hq]; exact curRun_bind ha)
        have HC1 := hide (And.intro h1 ((unhide HC).2.trans h2))
        clear hq ha h1 h2 HC HR c6
        generalize (curRun log (Prg.pulses bank k) sk).2 = s2 at *
        simp only [unitV]
        go_wp2_with fail
        refine (ref_bit c lv log bank k ⟨by omega, by omega⟩ s2 _ (unhide HC1).1).mono ?_
        intro e w3 hp
        obtain ⟨⟨x, rfl, ha⟩, h1, h2⟩ := hp
        have HM : Hid (curRun log (Prg.raiseTo bank bits target) s = curRun log (if x then Prg.raiseFrom bank (target - (k + 1)) (k + 1) else .ret (k, 12)) (curRun log (Prg.read bank k) s2).2) := hide (by rw [unhide HN]; exact curRun_bind ha)
        have HC2 := hide (And.intro h1 ((unhide HC1).2.trans h2))
        clear ha h1 h2 HC1 HN
        generalize (curRun log (Prg.read bank k) s2).2 = s3 at *
        simp only [boolV]
        cases x with
        | true =>
          go_wp2
          go_roundw
          case rel => exact ⟨k + 1, s3, .inr (by omega), by go_num, (unhide HC2).1, (unhide HC2).2, unhide HM⟩
          case measure => simp [intOf]; omega
        | false =>
          go_wp2
          go_ret2
          have hr : curRun log (Prg.raiseTo bank bits target) s = curRun log (.ret (k, 12)) s3 := unhide HM
          exact ⟨⟨(k, 12), rfl, fun a' ha => curRun_ret1 (by rw [← hr]; exact ha)⟩, by rw [hr, curRun_ret2]; exact (unhide HC2).1, (unhide HC2).2⟩
    · clear hk
      go_wp2
      go_ret2
      have hr : curRun log (Prg.raiseTo bank bits target) s = curRun log (.ret (k, 0)) sk := by rw [unhide HR, show target - k = 0 from by omega]; rfl
      exact ⟨⟨(k, 0), rfl, fun a' ha => curRun_ret1 (by rw [← hr]; exact ha)⟩, by rw [hr, curRun_ret2]; exact (unhide HC).1, (unhide HC).2⟩
def st0 : CurSt := ⟨0, zeroAcc, false⟩
end Go.Proofs.YtplkplegjoabgaaGreatDoor
