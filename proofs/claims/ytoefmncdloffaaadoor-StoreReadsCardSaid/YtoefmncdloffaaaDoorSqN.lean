/-
  Several texts in one file: each has its own heading below.
-/
import Derived.Test.YtoefmncdloffaaaDoorSqM
import Derived.Test.YtoefmncdloffaaaDoorSqL
import Derived.Test.YtoefmncdloffaaaDoorSqK


namespace Go.Proofs.YtoefmncdloffaaaDoor.Pv
open Go.RowKit
def decLd : List PV → Option (Prop × Prg StO × (StO → PV))
  | [.w (.one (.lit (.int .i64 rec)))] => some (i64P rec, Prg.load rec, stoPV)
  | _ => none
def decSv : List PV → Option (Prop × Prg StO × (StO → PV))
  | [.w (.one (.lit (.int .i64 rec))), .w (.one (.lit (.string c)))] => some (i64P rec, Prg.save rec c, stoPV)
  | _ => none
theorem load_spec : SpecOk Tryd.prog ShaMem 80 (prgSpecB decLd) :=
  prgSpecB_ok (call_enters Tryd.func80 (by kernel_rfl) rfl) (fun ys c p v h hc => by
    unfold decLd at h
    split at h
    · cases h; exact load_fun _ hc
    · cases h)
theorem save_spec : SpecOk Tryd.prog ShaMem 83 (prgSpecB decSv) :=
  prgSpecB_ok (call_enters Tryd.func83 (by kernel_rfl) rfl) (fun ys c p v h hc => by
    unfold decSv at h
    split at h
    · cases h; exact save_fun _ hc _
    · cases h)
def stL4 : List (Nat × Spec) := [(80, prgSpecB decLd), (83, prgSpecB decSv)]
theorem st4M : Mach Tryd.prog ShaMem (find stL4) := ⟨specs_of (fun p hp => by
  simp only [stL4, List.mem_cons, List.not_mem_nil, or_false] at hp
  rcases hp with rfl | rfl
  · exact load_spec
  · exact save_spec), mixed_⟩
def gtObs (rec : Int) : List Ob := [⟨900001, 3, [.lit (.int .i64 rec)], [.lit (.int .i64 rec)]⟩]
def ptObs (rec : Int) (c : ByteArray) : List Ob := [⟨900001, 3, [.lit (.int .i64 rec)], [.lit (.int .i64 rec)]⟩, ⟨900002, 9, [.lit (.string c)], [.lit (.string c)]⟩]
set_option maxRecDepth 100000 in
theorem get1_fun (rec : Int) (hr : i64P rec) (O : List Acc → Option Res) (hO : OB O) (l : List Acc) : FunX Tryd.prog ShaMem 79 false (gtObs rec) O (some (l, (go O (Prg.load rec) l).2)) (fun g => l <+: g ∧ g <+: (go O (Prg.load rec) l).2)
    [.w (.one .dv), pv1 (.pt 900001 0 0)] (stoPV (go O (Prg.load rec) l).1) := by
  have M := st4M
  refine funX_of Tryd.func79 rfl rfl rfl (fun A hn hI => ?_)
  generalize hstp : (fun g => l <+: g ∧ g <+: (go O (Prg.load rec) l).2) = stp
  refine tri_reg M hI hn (outs := ?_) (s' := ?_) ?_ ?_ ?_ ?_
  rotate_left 2
  · rfl
  · kernel_rfl
  · simp
  refine tri_reg M hI hn (outs := ?_) (s' := ?_) ?_ ?_ ?_ ?_
  rotate_left 2
  · rfl
  · kernel_rfl
  · simp
    refine ⟨⟨hO, hr⟩, fun h h1 h2 _ => ?_⟩
    rw [← hstp]
    exact ⟨h1, h2⟩
  refine tri_ret (fun a w hg => ⟨.inr rfl, _, ⟨?_, ?_, fun p hp => ?_⟩, hg⟩)
  rotate_left 1
  · intro o ho
    simp only [gtObs, List.mem_cons, List.not_mem_nil, or_false] at ho
    rcases ho with rfl <;> exact ⟨_, rfl, .cons (.cold rfl) .nil⟩
  · cases hp
    rfl
  refine retTo_cold (out := ?_) ?_ ?_ ?_ ?_ ?_
  rotate_left 1
  · rfl
  · simp
  · rfl
  · rfl
  rfl
set_option maxRecDepth 100000 in
theorem put1_fun (rec : Int) (hr : i64P rec) (c : ByteArray) (O : List Acc → Option Res) (hO : OB O) (l : List Acc) : FunX Tryd.prog ShaMem 82 false (ptObs rec c) O (some (l, (go O (Prg.save rec c) l).2)) (fun g => l <+: g ∧ g <+: (go O (Prg.save rec c) l).2)
    [.w (.one .dv), pv1 (.pt 900001 0 0), pv1 (.pt 900002 0 0)] (stoPV (go O (Prg.save rec c) l).1) := by
  have M := st4M
  refine funX_of Tryd.func82 rfl rfl rfl (fun A hn hI => ?_)
  generalize hstp : (fun g => l <+: g ∧ g <+: (go O (Prg.save rec c) l).2) = stp
  refine tri_reg M hI hn (outs := ?_) (s' := ?_) ?_ ?_ ?_ ?_
  rotate_left 2
  · rfl
  · kernel_rfl
  · simp
  refine tri_reg M hI hn (outs := ?_) (s' := ?_) ?_ ?_ ?_ ?_
  rotate_left 2
  · rfl
  · kernel_rfl
  · simp
    refine ⟨⟨hO, hr⟩, fun h h1 h2 _ => ?_⟩
    rw [← hstp]
    exact ⟨h1, h2⟩
  refine tri_ret (fun a w hg => ⟨.inr rfl, _, ⟨?_, ?_, fun p hp => ?_⟩, hg⟩)
  rotate_left 1
  · intro o ho
    simp only [ptObs, List.mem_cons, List.not_mem_nil, or_false] at ho
    rcases ho with (rfl | rfl) <;> exact ⟨_, rfl, .cons (.cold rfl) .nil⟩
  · cases hp
    rfl
  refine retTo_cold (out := ?_) ?_ ?_ ?_ ?_ ?_
  rotate_left 1
  · rfl
  · simp
  · rfl
  · rfl
  rfl
end Go.Proofs.YtoefmncdloffaaaDoor.Pv


namespace Go.Proofs.YtoefmncdloffaaaDoor.Pv
open Go.RowKit
def fsF (l : List ByteArray) : Nat → List PC := fun i => [.lit (.string (l.getD i noBytes))]
def fsOf : List PC → ByteArray
  | [.lit (.string s)] => s
  | _ => noBytes
def isFs : List PC → Bool
  | [.lit (.string _)] => true
  | _ => false
theorem isFs_ok {l : List PC} (h : isFs l = true) : l = [.lit (.string (fsOf l))] := by
  unfold isFs at h
  split at h
  · rfl
  · cases h
def fsRow (n : Nat) (f : Nat → List PC) : List ByteArray := (List.range n).map fun i => fsOf (f i)
def IsFsRow (n : Nat) (f : Nat → List PC) : Prop := ∀ i, i < n → isFs (f i) = true
@[simp] theorem fsRow_length (n : Nat) (f : Nat → List PC) : (fsRow n f).length = n := by simp [fsRow]
theorem fsF_row {n : Nat} {f : Nat → List PC} (h : IsFsRow n f) : ∀ i, i < n → f i = fsF (fsRow n f) i := fun i hi => by
  unfold fsF fsRow
  rw [List.getD_eq_getElem?_getD, List.getElem?_map, List.getElem?_range hi]
  exact isFs_ok (h i hi)
@[simp] theorem isFsRow_fsF (n : Nat) (l : List ByteArray) : IsFsRow n (fsF l) := fun _ _ => rfl
@[simp] theorem fsRow_fsF (l : List ByteArray) : fsRow l.length (fsF l) = l := by
  apply List.ext_getElem (by simp)
  intro i h1 h2
  simp only [fsRow, List.getElem_map, List.getElem_range, fsF, fsOf]
  rw [List.getD_eq_getElem?_getD, List.getElem?_eq_getElem h2]
  rfl
theorem sl_conv' {C : Ctx} {n len : Nat} {f g : Nat → List PC} (h : ∀ i, i < len → f i = g i) {xs : List Value} (hr : R C (.sl n len f) xs) : R C (.sl n len g) xs := by
  cases hr with
  | sl h1 h2 h3 => exact .sl h1 h2 (fun i hi => by rw [← h i hi]; exact h3 i hi)
theorem RL.head {C : Ctx} {c c' : PC} {l : List PC} (h : ∀ ys, R C c ys → R C c' ys) {xs : List Value} (hr : RL C (c :: l) xs) : RL C (c' :: l) xs := by
  cases hr with
  | cons h1 h2 => exact .cons (h _ h1) h2
def flV (f : Fl) : PV := .w (.agg [.sl 1 f.length (fsF f)])
def hasS (f : Fl) (s : Int) : Bool := decide (0 ≤ s) && decide (s < f.length)
theorem has_yes {f : Fl} {s : Int} (h : hasS f s = true) : 0 ≤ s ∧ s < f.length := by
  unfold hasS at h
  rw [Bool.and_eq_true] at h
  exact ⟨of_decide_eq_true h.1, of_decide_eq_true h.2⟩
theorem has_no {f : Fl} {s : Int} (h : hasS f s = false) : ¬ (0 ≤ s ∧ s < f.length) := fun h2 => by
  unfold hasS at h
  rw [decide_eq_true h2.1, decide_eq_true h2.2] at h
  cases h
def isPtAt (i : Nat) : PV → Bool
  | .w (.one (.pt x v o)) => Nat.beq x (px + i) && (Nat.beq v 0 && Nat.beq o 0)
  | _ => false
theorem isPtAt_ok {i : Nat} {v : PV} (h : isPtAt i v = true) : v = pv1 (.pt (px + i) 0 0) := by
  unfold isPtAt at h
  split at h
  · rw [Bool.and_eq_true, Bool.and_eq_true] at h
    rw [beqT h.1, beqT h.2.1, beqT h.2.2]
  · cases h
set_option maxRecDepth 100000 in
theorem has_fun (f : Fl) (s : Int) : FunOk Tryd.prog ShaMem 87 true [flV f, pvI s] (pvB (hasS f s)) := by
  have M := nomM (I := ShaMem)
  refine funOk_of Tryd.func87 rfl rfl sha_ext (fun A hS hn hI => ?_)
  refine tri_reg M hI hn (outs := ?_) (s' := ?_) ?_ ?_ ?_ ?_
  rotate_left 2
  · rfl
  · kernel_rfl
  · simp
  refine tri_reg M hI hn (outs := ?_) (s' := ?_) ?_ ?_ ?_ ?_
  rotate_left 2
  · rfl
  · kernel_rfl
  · simp
  refine tri_ret (fun a w hg => ⟨.inr rfl, _, ?_, hg⟩)
  refine retTo_cold (out := ?_) ?_ ?_ ?_ ?_ ?_
  rotate_left 1
  · rfl
  · simp
  · rfl
  · rfl
  change pvB (bif decide (s ≥ 0) then decide (s < (f.length : Int)) else false) = _
  unfold hasS
  by_cases h : 0 ≤ s
  · rw [decide_eq_true h]; rfl
  · rw [decide_eq_false h]; rfl
theorem ext_list (b : ByteArray) (l h : Nat) : b.extract l h = strOf ((b.data.toList.take h).drop l) := by
  apply ByteArray.ext
  rw [ByteArray.data_extract]
  apply Array.toList_inj.1
  unfold strOf
  simp [Array.toList_extract, List.drop_take]
theorem str_app (a b : List UInt8) : strOf a ++ strOf b = strOf (a ++ b) := by
  apply ByteArray.ext
  rw [ByteArray.data_append]
  simp [strOf]
set_option maxRecDepth 100000 in
theorem merge_fun (cut : Int) (b old : ByteArray) (hb1 : b.size ≤ 1000000) (ho1 : old.size ≤ 1000000) : FunX Tryd.prog ShaMem 88 false [⟨900001, 3, [.lit (.int .i64 cut)], [.lit (.int .i64 cut)]⟩, ⟨900002, 9, [.lit (.string b)], [.lit (.string b)]⟩] (fun _ => none) none (fun _ => False)
    [strV old, pv1 (.pt 900001 0 0), pv1 (.pt 900002 0 0)] (strV (strOf (torn cut b.data.toList old.data.toList))) := by
  have M := nomM (I := ShaMem)
  have hbs : b.data.toList.length = b.size := Array.length_toList
  refine funX_of Tryd.func88 rfl rfl rfl (fun A hn hI => ?_)
  refine tri_reg M hI hn (outs := ?_) (s' := ?_) ?_ ?_ ?_ ?_
  rotate_left 2
  · rfl
  · kernel_rfl
  · simp
  refine tri_seq ?_
  refine tri_reg M hI hn (outs := ?_) (s' := ?_) ?_ ?_ ?_ ?_
  rotate_left 2
  · rfl
  · kernel_rfl
  · simp
  refine tri_cond (b := ?_) ?_ (fun hc => ?_) (fun hc => ?_)
  rotate_left 1
  · rfl
  · refine tri_reg M hI hn (outs := ?_) (s' := ?_) ?_ ?_ ?_ ?_
    rotate_left 2
    · rfl
    · kernel_rfl
    · simp
    have h : cut < 0 ∨ (b.data.toList.length : Int) ≤ cut := by simp at hc; omega
    unfold torn
    rw [if_pos h, strOf_toList]
    refine tri_ret (fun a w hg => ⟨.inr rfl, _, ⟨?_, (fun o ho => by
      simp only [List.mem_cons, List.not_mem_nil, or_false] at ho
      rcases ho with rfl | rfl <;> exact ⟨_, rfl, exL_refl rfl⟩), fun p hp => (by cases hp)⟩, hg⟩)
    refine retTo_cold (out := ?_) ?_ ?_ ?_ ?_ ?_
    rotate_left 1
    · rfl
    · simp
    · rfl
    · rfl
    rfl
  · refine tri_skip ?_
    change Tri _ _ _ _ _
    have h : ¬ (cut < 0 ∨ (b.data.toList.length : Int) ≤ cut) := by simp at hc; omega
    unfold torn
    rw [if_neg h]
    refine tri_reg M hI hn (outs := ?_) (s' := ?_) ?_ ?_ ?_ ?_
    rotate_left 2
    · rfl
    · kernel_rfl
    · simp
      omega
    refine tri_ret (fun a w hg => ⟨.inr rfl, _, ⟨?_, (fun o ho => by
      simp only [List.mem_cons, List.not_mem_nil, or_false] at ho
      rcases ho with rfl | rfl <;> exact ⟨_, rfl, exL_refl rfl⟩), fun p hp => (by cases hp)⟩, hg⟩)
    refine retTo_cold (out := ?_) ?_ ?_ ?_ ?_ ?_
    rotate_left 1
    · rfl
    · simp
    · rfl
    · rfl
    change strV (b.extract (Int.toNat 0) cut.toNat ++ old.extract (min cut (old.size : Int)).toNat ((old.size : Int)).toNat) = _
    rw [ext_list, ext_list, str_app]
    have hos : old.data.toList.length = old.size := Array.length_toList
    have e1 : (old.data.toList.take ((old.size : Int)).toNat).drop (min cut (old.size : Int)).toNat = old.data.toList.drop cut.toNat := by
      rw [Int.toNat_natCast, List.take_of_length_le (by omega)]
      by_cases h5 : cut ≤ (old.size : Int)
      · rw [show (min cut (old.size : Int)) = cut from by omega]
      · rw [List.drop_of_length_le (by omega), List.drop_of_length_le (by omega)]
    rw [e1]
    rfl
def flOf : PV → Option (Prop × Fl)
  | .w (.agg [.sl 1 n f]) => some (IsFsRow n f, fsRow n f)
  | _ => none
theorem flOf_ok {C : Ctx} {v : PV} {p : Prop} {f : Fl} {x : Value} (h : flOf v = some (p, f)) (hp : p) (hr : RV C v x) : RV C (flV f) x := by
  unfold flOf at h
  split at h
  · rename_i n fr
    cases h
    cases hr with
    | w h1 => cases h1 with
      | agg h2 =>
        refine .w (.agg (h2.head fun ys h3 => ?_))
        rw [fsRow_length]
        exact sl_conv' (fsF_row hp) h3
  · cases h
def spHas : Spec := funSpec true fun xs => match xs with
  | [v, .w (.one (.lit (.int .i64 s)))] => (match flOf v with
    | some (p, f) => some (p, pvB (hasS f s))
    | none => none)
  | _ => none
theorem has_ok : SpecOk Tryd.prog ShaMem 87 spHas := by
  refine funSpec_ok (call_enters Tryd.func87 (by kernel_rfl) rfl) (fun xs p r hg hp => ?_)
  split at hg
  · rename_i v s
    cases hq : flOf v with
    | none => rw [hq] at hg; cases hg
    | some q =>
      obtain ⟨p0, f⟩ := q
      rw [hq] at hg
      cases hg
      exact (has_fun f s).args fun C vs hv => by
        match vs, hv with
        | [x0, x], ⟨h0, h1, _⟩ => exact ⟨flOf_ok hq hp h0, h1, trivial⟩
  · cases hg
def lsL1 : List (Nat × Spec) := [(87, spHas)]
theorem lsM1 : Mach Tryd.prog ShaMem (find lsL1) := ⟨specs_of (fun p hp => by
  obtain rfl := List.mem_singleton.1 hp
  exact has_ok), mixed_⟩
set_option maxRecDepth 100000 in
theorem fread_fun (f : Fl) (s : Int) : FunOk Tryd.prog ShaMem 85 true [flV f, pvI s] (.tup [.one (.lit (.string (strOf (sec f s)))), .one (.lit (.int .i64 (if hasS f s then 0 else 13)))]) := by
  have M := lsM1
  refine funOk_of Tryd.func85 rfl rfl sha_ext (fun A hS hn hI => ?_)
  refine tri_reg M hI hn (outs := ?_) (s' := ?_) ?_ ?_ ?_ ?_
  rotate_left 2
  · rfl
  · kernel_rfl
  · simp
  refine tri_seq ?_
  refine tri_reg M hI hn (outs := ?_) (s' := ?_) ?_ ?_ ?_ ?_
  rotate_left 2
  · rfl
  · kernel_rfl
  · simp
  rw [fsRow_fsF]
  refine tri_cond (b := ?_) ?_ (fun hc => ?_) (fun hc => ?_)
  rotate_left 1
  · rfl
  · refine tri_reg M hI hn (outs := ?_) (s' := ?_) ?_ ?_ ?_ ?_
    rotate_left 2
    · rfl
    · kernel_rfl
    · simp
    have h : hasS f s = false := by simpa using hc
    have e : sec f s = [] := by unfold sec; rw [if_neg (has_no h)]
    rw [h, e]
    refine tri_ret (fun a w hg => ⟨.inr rfl, _, ?_, hg⟩)
    refine retTo_cold (out := ?_) ?_ ?_ ?_ ?_ ?_
    rotate_left 1
    · rfl
    · simp
    · rfl
    · rfl
    rfl
  · have h : hasS f s = true := by simpa using hc
    have h2 := has_yes h
    refine tri_skip ?_
    change Tri _ _ _ _ _
    refine tri_reg M hI hn (outs := ?_) (s' := ?_) ?_ ?_ ?_ ?_
    rotate_left 2
    · rfl
    · kernel_rfl
    · simp
      exact h2
    have e : strOf (sec f s) = f.getD s.toNat noBytes := by unfold sec; rw [if_pos h2, strOf_toList]
    rw [h, e]
    refine tri_ret (fun a w hg => ⟨.inr rfl, _, ?_, hg⟩)
    refine retTo_cold (out := ?_) ?_ ?_ ?_ ?_ ?_
    rotate_left 1
    · rfl
    · simp
    · rfl
    · rfl
    rfl
def spRd : Spec := funSpec true fun xs => match xs with
  | [v, .w (.one (.lit (.int .i64 s)))] => (match flOf v with
    | some (p, f) => some (p, .tup [.one (.lit (.string (strOf (sec f s)))), .one (.lit (.int .i64 (if hasS f s then 0 else 13)))])
    | none => none)
  | _ => none
theorem fread_ok : SpecOk Tryd.prog ShaMem 85 spRd := by
  refine funSpec_ok (call_enters Tryd.func85 (by kernel_rfl) rfl) (fun xs p r hg hp => ?_)
  split at hg
  · rename_i v s
    cases hq : flOf v with
    | none => rw [hq] at hg; cases hg
    | some q =>
      obtain ⟨p0, f⟩ := q
      rw [hq] at hg
      cases hg
      exact (fread_fun f s).args fun C vs hv => by
        match vs, hv with
        | [x0, x], ⟨h0, h1, _⟩ => exact ⟨flOf_ok hq hp h0, h1, trivial⟩
  · cases hg
def spMerge : Spec := obSpec fun os ys => match os, ys with
  | [(t0, [.lit (.int .i64 cut)]), (t1, [.lit (.string b)])], [.w (.one (.lit (.string old))), p0, p1] =>
    (match Nat.beq t0 3 && (Nat.beq t1 9 && (isPtAt 0 p0 && isPtAt 1 p1)) with
    | true => some (b.size ≤ 1000000 ∧ old.size ≤ 1000000, [[.lit (.int .i64 cut)], [.lit (.string b)]], strV (strOf (torn cut b.data.toList old.data.toList)))
    | false => none)
  | _, _ => none
theorem merge_ok : SpecOk Tryd.prog ShaMem 88 spMerge := by
  refine obSpec_ok (call_enters Tryd.func88 (by kernel_rfl) rfl) (fun os ys p cs r hg hlen hp => ?_)
  split at hg
  · rename_i t0 cut t1 b old p0 p1 hos
    split at hg
    · rename_i hb
      simp only [Bool.and_eq_true] at hb
      obtain ⟨b0, b1, q0, q1⟩ := hb
      cases hg
      match os, hos with
      | [o0, o1], hos =>
        simp only [List.map_cons, List.map_nil, List.cons.injEq, Prod.mk.injEq, and_true] at hos
        obtain ⟨⟨h0, k0⟩, ⟨h1, k1⟩⟩ := hos
        have e0 := beqT b0
        have e1 := beqT b1
        have := merge_fun cut b old hp.1 hp.2
        unfold obsOf obsOf obsOf
        rw [h0, k0, h1, k1, e0, e1, isPtAt_ok q0, isPtAt_ok q1]
        exact this
    · cases hg
  · cases hg
def lsL2 : List (Nat × Spec) := (88, spMerge) :: (89, spRep) :: lsL1
theorem ls2_ok : ∀ p ∈ lsL2, SpecOk Tryd.prog ShaMem p.1 p.2 := by
  intro p hp
  simp only [lsL2, lsL1, List.mem_cons, List.not_mem_nil, or_false] at hp
  rcases hp with rfl | rfl | rfl
  · exact merge_ok
  · exact rep_ok
  · exact has_ok
theorem lsM2 : Mach Tryd.prog ShaMem (find lsL2) := ⟨specs_of ls2_ok, mixed_⟩
def wrCode (f : Fl) (s : Int) (b : ByteArray) : Int := if hasS f s then (if b.size = 256 then 0 else 1) else 13
set_option maxRecDepth 100000 in
set_option maxHeartbeats 1000000 in
theorem fwrite_fun (f : Fl) (s : Int) (b : ByteArray) (cut : Int) (hf : ∀ x ∈ f, x.size ≤ 1000000) (hlen : f.length ≤ 1000000) : FunOk Tryd.prog ShaMem 46 false [flV f, pvI s, strV b, pvI cut] (.tup [.agg [.sl 1 (fwrite f s b cut).length (fsF (fwrite f s b cut))], .one (.lit (.int .i64 (wrCode f s b)))]) := by
  have M := lsM2
  have hb1 : Tryd.prog.types[9].bytes = 16 := by kernel_rfl
  have hs1 : Tryd.prog.types[9].size = 1 := by kernel_rfl
  refine funOk_of Tryd.func46 rfl rfl sha_ext (fun A hS hn hI => ?_)
  refine tri_reg M hI hn (outs := ?_) (s' := ?_) ?_ ?_ ?_ ?_
  rotate_left 2
  · rfl
  · kernel_rfl
  · simp
  refine tri_seq ?_
  refine tri_block ?_
  refine tri_reg M hI hn (outs := ?_) (s' := ?_) ?_ ?_ ?_ ?_
  rotate_left 2
  · rfl
  · kernel_rfl
  · simp
  rw [fsRow_fsF]
  refine tri_cond (b := ?_) ?_ (fun hc => ?_) (fun hc => ?_)
  rotate_left 1
  · rfl
  · refine tri_reg M hI hn (outs := ?_) (s' := ?_) ?_ ?_ ?_ ?_
    rotate_left 2
    · rfl
    · kernel_rfl
    · simp
    have h : hasS f s = false := by simpa using hc
    have e1 : fwrite f s b cut = f := if_neg (fun h5 => has_no h ⟨h5.1, h5.2.1⟩)
    have e2 : wrCode f s b = 13 := by unfold wrCode; rw [h]; rfl
    rw [e1, e2]
    refine tri_ret (fun a w hg => ⟨.inr rfl, _, ?_, hg⟩)
    refine retTo_cold (out := ?_) ?_ ?_ ?_ ?_ ?_
    rotate_left 1
    · rfl
    · simp
    · rfl
    · rfl
    rfl
  · have h : hasS f s = true := by simpa using hc
    have h2 := has_yes h
    refine tri_reg M hI hn (outs := ?_) (s' := ?_) ?_ ?_ ?_ ?_
    rotate_left 2
    · rfl
    · kernel_rfl
    · simp
    refine tri_cond (b := ?_) ?_ (fun hc => ?_) (fun hc => ?_)
    rotate_left 1
    · rfl
    · refine tri_reg M hI hn (outs := ?_) (s' := ?_) ?_ ?_ ?_ ?_
      rotate_left 2
      · rfl
      · kernel_rfl
      · simp
      have hb : ¬ b.size = 256 := by simp at hc; omega
      have e1 : fwrite f s b cut = f := if_neg (fun h5 => hb h5.2.2)
      have e2 : wrCode f s b = 1 := by unfold wrCode; rw [h, if_neg hb]; rfl
      rw [e1, e2]
      refine tri_ret (fun a w hg => ⟨.inr rfl, _, ?_, hg⟩)
      refine retTo_cold (out := ?_) ?_ ?_ ?_ ?_ ?_
      rotate_left 1
      · rfl
      · simp
      · rfl
      · rfl
      rfl
    · refine tri_skip ?_
      change Tri _ _ _ _ _
      refine tri_reg M hI hn (outs := ?_) (s' := ?_) ?_ ?_ ?_ ?_
      rotate_left 2
      · rfl
      · kernel_rfl
      · simp
      have hb : b.size = 256 := by simp at hc; omega
      have e1 : fwrite f s b cut = f.set s.toNat (strOf (torn cut b.data.toList (sec f s))) := if_pos ⟨h2.1, h2.2, hb⟩
      have e2 : wrCode f s b = 0 := by unfold wrCode; rw [h, if_pos hb]; rfl
      have e3 : sec f s = (f.getD s.toNat noBytes).data.toList := if_pos h2
      rw [e1, e2, e3]
      refine tri_reg M hI hn (outs := ?_) (s' := ?_) ?_ ?_ ?_ ?_
      rotate_left 2
      · rfl
      · kernel_rfl
      · simp
        rw [hb1]
        omega
      refine tri_reg M hI hn (outs := ?_) (s' := ?_) ?_ ?_ ?_ ?_
      rotate_left 2
      · rfl
      · kernel_rfl
      · simp
      refine tri_conv (s' := ⟨[(1, none, pvI s), (8, none, pv1 (.pt 3 0 0)), (10, none, pv1 (.fn (.func 88) [] [.pt 2 0 0, .pt 1 0 0])), (11, none, pv1 (.ow 6003 0 1 0 f.length))], [(6003, none, 0, .arr 9 1 f.length (fsF f)), (1, none, 0, .box 9 [.lit (.string b)]), (2, none, 0, .box 3 [.lit (.int .i64 cut)]), (3, none, 0, .box 72 [.lit (.slice none 0 0)])]⟩) (fun a w hg => (hg.reset (kT := [1, 8, 10, 11]) (kO := [6003, 1, 2, 3]) (by rfl) ?_).same ?_ ?_) ?_
      · refine ⟨fun i _ => ?_, trivial⟩
        unfold cpF
        split <;> rfl
      · refine .cons rfl (.cons rfl (.cons rfl (.cons ?_ .nil)))
        change pv1 (.ow 6003 0 Tryd.prog.types[9].size 0 ((f.length : Int)).toNat) = _
        rw [hs1, Int.toNat_natCast]
      · refine .cons (.arr ?_ (fun i hi => ?_)) (.cons (.box rfl) (.cons (.box rfl) (.cons (.box rfl) .nil)))
        · exact Int.toNat_natCast _
        · unfold cpF
          rw [Int.toNat_natCast] at hi ⊢
          rw [if_pos (by omega)]
      have hgl : (f.getD s.toNat noBytes).size ≤ 1000000 := by
        rw [List.getD_eq_getElem?_getD, List.getElem?_eq_getElem (by omega)]
        exact hf _ (List.getElem_mem _)
      refine tri_reg M hI hn (outs := ?_) (s' := ?_) ?_ ?_ ?_ ?_
      rotate_left 2
      · rfl
      · kernel_rfl
      · simp
        rw [← List.getD_eq_getElem?_getD]
        omega
      refine tri_reg M hI hn (outs := ?_) (s' := ?_) ?_ ?_ ?_ ?_
      rotate_left 2
      · rfl
      · kernel_rfl
      · simp
      rw [List.length_set]
      refine tri_ret (fun a w hg => ⟨.inr rfl, _, ?_, hg⟩)
      refine retTo_ex (out := ?_) ?_ ?_ ?_ ?_
      rotate_left 1
      · rfl
      · simp
      · rfl
      refine .tup (.cons (.agg (.cons (.row rfl trivial (by omega) (fun i hi => ?_) (fun i hi => rfl)) .nil)) (.cons (.one (.cold rfl)) .nil))
      rw [Nat.zero_add]
      split
      · rename_i e
        obtain rfl : i = s.toNat := by omega
        unfold fsF
        rw [List.getD_eq_getElem?_getD (l := f.set _ _), List.getElem?_set_self (by omega), Nat.zero_add]
        rfl
      · rename_i e
        unfold fsF
        rw [List.getD_eq_getElem?_getD (l := f.set _ _), List.getElem?_set_ne (by omega), List.getD_eq_getElem?_getD]
theorem repL_zero2 (n : Nat) : Lib.repeatL [(0 : UInt8)] n = List.replicate n 0 := by
  induction n with
  | zero => rfl
  | succ n ih => rw [Lib.repeatL, ih]; rfl
def flPC (f : Fl) : List PC := [.sl 1 f.length (fsF f)]
def spWr : Spec := funSpec false fun xs => match xs with
  | [v, .w (.one (.lit (.int .i64 s))), .w (.one (.lit (.string b))), .w (.one (.lit (.int .i64 cut)))] => (match flOf v with
    | some (p, f) => some (p ∧ (∀ x ∈ f, x.size ≤ 1000000) ∧ f.length ≤ 1000000, .tup [.agg (flPC (fwrite f s b cut)), .one (.lit (.int .i64 (wrCode f s b)))])
    | none => none)
  | _ => none
theorem fwrite_ok : SpecOk Tryd.prog ShaMem 46 spWr := by
  refine funSpec_ok (call_enters Tryd.func46 (by kernel_rfl) rfl) (fun xs p r hg hp => ?_)
  split at hg
  · rename_i v s b cut
    cases hq : flOf v with
    | none => rw [hq] at hg; cases hg
    | some q =>
      obtain ⟨p0, f⟩ := q
      rw [hq] at hg
      cases hg
      exact (fwrite_fun f s b cut hp.2.1 hp.2.2).args fun C vs hv => by
        match vs, hv with
        | [x0, x, y, z], ⟨h0, h1, h2, h3, _⟩ => exact ⟨flOf_ok hq hp.1 h0, h1, h2, h3, trivial⟩
  · cases hg
def zeroFl : Fl := List.replicate 128 (strOf zeroSec)
def nwF (k : Nat) : Nat → List PC := fun i => [.lit (.string (if i < k then strOf zeroSec else noBytes))]
def nwSt (k : Nat) : St := ⟨[(2, none, pv1 (.pt 0 0 0)), (4, none, pv1 (.pt 3003 0 0)), (5, none, strV (strOf zeroSec)), (20, none, pvI 128), (21, none, pvI (k : Int))], [(3000+1, none, 0, .arr 9 1 128 (nwF k)), (3003, none, 0, .box 72 [.ow 3001 0 1 0 128]), (0, none, 0, .box 72 [.lit (.slice none 0 0)])]⟩
set_option maxRecDepth 100000 in
set_option maxHeartbeats 1000000 in
theorem new_fun : FunOk Tryd.prog ShaMem 47 true [pvI 128] (.tup [.agg (flPC zeroFl), .one (.lit (.int .i64 0))]) := by
  have M := lsM2
  have hb1 : Tryd.prog.types[9].bytes = 16 := by kernel_rfl
  have hs1 : Tryd.prog.types[9].size = 1 := by kernel_rfl
  refine funOk_of Tryd.func47 rfl rfl sha_ext (fun A hS hn hI => ?_)
  refine tri_reg M hI hn (outs := ?_) (s' := ?_) ?_ ?_ ?_ ?_
  rotate_left 2
  · rfl
  · kernel_rfl
  · simp
  refine tri_seq ?_
  refine tri_reg M hI hn (outs := ?_) (s' := ?_) ?_ ?_ ?_ ?_
  rotate_left 2
  · rfl
  · kernel_rfl
  · simp
  refine tri_cond (b := ?_) ?_ (fun hc => ?_) (fun hc => ?_)
  rotate_left 1
  · rfl
  · cases hc
  · refine tri_skip ?_
    change Tri _ _ _ _ _
    refine tri_reg M hI hn (outs := ?_) (s' := ?_) ?_ ?_ ?_ ?_
    rotate_left 2
    · rfl
    · kernel_rfl
    · simp
      rw [hb1]
      omega
    refine tri_reg M hI hn (outs := ?_) (s' := ?_) ?_ ?_ ?_ ?_
    rotate_left 2
    · rfl
    · kernel_rfl
    · simp
      exact Nat.le_refl _
    refine tri_seq ?_
    refine tri_reg M hI hn (outs := ?_) (s' := ?_) ?_ ?_ ?_ ?_
    rotate_left 2
    · rfl
    · kernel_rfl
    · simp
    have hz : strOf (Lib.repeatL [0] 256) = strOf zeroSec := by rw [repL_zero2]; rfl
    refine tri_conv (s' := nwSt 0) (fun a w hg => (hg.reset (kT := [2, 4, 5, 20, 21]) (kO := [3001, 3003, 0]) (by rfl) ?_).same ?_ ?_) ?_
    · exact ⟨fun i _ => rfl, trivial⟩
    · refine .cons rfl (.cons rfl (.cons ?_ (.cons rfl (.cons rfl .nil))))
      exact congrArg strV hz
    · refine .cons (.arr rfl (fun i hi => ?_)) (.cons (.box ?_) (.cons (.box rfl) .nil))
      · unfold nwF
        rw [if_neg (by omega)]
        rfl
      · exact congrArg (fun n => [PC.ow 3001 0 n 0 128]) hs1
    refine tri_block ?_
    refine tri_loop 128 (fun k t => t = nwSt k) 0 rfl (by omega) (fun k t hJ hk => ?_)
    subst hJ
    refine tri_reg M hI hn (outs := ?_) (s' := ?_) ?_ ?_ ?_ ?_
    rotate_left 2
    · rfl
    · kernel_rfl
    · simp
    refine tri_seq ?_
    refine tri_cond (b := ?_) ?_ (fun hc => ?_) (fun hc => ?_)
    rotate_left 1
    · rfl
    · have hk2 : k < 128 := by have := of_decide_eq_true hc; omega
      refine tri_skip ?_
      change Tri _ _ _ _ _
      refine tri_seq ?_
      refine tri_block ?_
      refine tri_reg M hI hn (outs := ?_) (s' := ?_) ?_ ?_ ?_ ?_
      rotate_left 2
      · rfl
      · kernel_rfl
      · simp
      refine tri_region M hI hn (outs := ?_) (s' := ?_) ?_ ?_ ?_ ?_
      rotate_left 2
      · rfl
      · kernel_rfl
      · simp
        omega
      change Tri _ _ _ _ _
      refine tri_region M hI hn (outs := ?_) (s' := ?_) ?_ ?_ ?_ ?_
      rotate_left 2
      · rfl
      · kernel_rfl
      · simp
      intro a w hg
      refine ⟨k + 1, _, by omega, by omega, rfl, (hg.reset (kT := [2, 4, 5, 20, 21]) (kO := [3001, 3003, 0]) (by rfl) ?_).same ?_ ?_⟩
      · refine ⟨fun i _ => ?_, trivial⟩
        dsimp only
        split <;> rfl
      · exact .cons rfl (.cons rfl (.cons rfl (.cons rfl (.cons (by rw [wrap_nat k (by omega)]) .nil))))
      · refine .cons (.arr rfl (fun i hi => ?_)) (.cons (.box rfl) (.cons (.box rfl) .nil))
        unfold nwF
        split
        · rename_i e
          rw [if_pos (by omega)]
          rfl
        · rename_i e
          by_cases h : i < k
          · rw [if_pos h, if_pos (by omega)]
          · rw [if_neg h, if_neg (by omega)]
    · have hk2 : k = 128 := by have := of_decide_eq_false hc; omega
      subst hk2
      refine tri_exit ?_
      change Tri _ _ _ _ _
      refine tri_reg M hI hn (outs := ?_) (s' := ?_) ?_ ?_ ?_ ?_
      rotate_left 2
      · rfl
      · kernel_rfl
      · simp
      refine tri_ret (fun a w hg => ⟨.inr rfl, _, ?_, hg⟩)
      refine retTo_ex (out := ?_) ?_ ?_ ?_ ?_
      rotate_left 1
      · rfl
      · simp
      · rfl
      refine .tup (.cons (.agg (.cons (.row rfl trivial (by omega) (fun i hi => ?_) (fun i hi => rfl)) .nil)) (.cons (.one (.cold rfl)) .nil))
      rw [Nat.zero_add]
      unfold nwF fsF zeroFl
      rw [if_pos hi, List.getD_eq_getElem?_getD, List.getElem?_replicate, if_pos hi]
      rfl
def spNew : Spec := funSpec true fun xs => match xs with
  | [.w (.one (.lit (.int .i64 n)))] => some (n = 128, .tup [.agg (flPC zeroFl), .one (.lit (.int .i64 0))])
  | _ => none
theorem new_ok : SpecOk Tryd.prog ShaMem 47 spNew := by
  refine funSpec_ok (call_enters Tryd.func47 (by kernel_rfl) rfl) (fun xs p r hg hp => ?_)
  split at hg
  · cases hg
    obtain rfl : _ = (128 : Int) := hp
    exact new_fun
  · cases hg
end Go.Proofs.YtoefmncdloffaaaDoor.Pv


namespace Go.Proofs.YtoefmncdloffaaaDoor
open Go.RowKit
def ShortL (log : List Res) : Prop := ∀ r ∈ log, r.bytes.size ≤ 1000000
theorem ShortL.ob {log : List Res} (h : ShortL log) : Pv.OB (Pv.logO log) := fun l r hr => by
  unfold Pv.logO at hr
  split at hr
  · cases hr
  · exact h r (List.mem_of_getElem? hr)
def PlP (p : Prg StO) (log : List Res) (e : Ending) : Prop :=
  (∃ a i, p.run (replay log) 0 = .ok a i ∧ e = .returned (.tuple #[.agg #[.int .i64 0, .int .i64 0, .int .i64 0, .string noBytes], .agg #[.string a.content, .int .i64 a.seq, .int .i64 a.err], .bool true])) ∨
  ∃ c i, p.run (replay log) 0 = .error c i ∧ e = .returned (.tuple #[c.v, .agg #[.string noBytes, .int .i64 0, .int .i64 0], .bool false])
theorem stoRV {C : Pv.Ctx} {o : StO} {cs : Array Value} (h : Pv.RL C (Pv.stoPC o) cs.toList) : cs = #[.string o.content, .int .i64 o.seq, .int .i64 o.err] :=
  Pv.rl_lits_arr (vs := [.string o.content, .int .i64 o.seq, .int .i64 o.err]) h
set_option maxHeartbeats 1000000 in
theorem get1_run (rec : Int) (hr : Pv.i64P rec) (lv : Value) (log : List Res) (hlog : ShortL log) (g : Nat) (w0 w : World) (hw0 : Ext w0 w) (hgw : g + 1 ≤ w0.heap.size) (hlv : ∀ k, lv.ownBlock = some k → 0 < log.length → k < g) (hmem : ∀ w', Chg (fun b => g ≤ b) w w' → ShaMem w')
    (B0 : Blk w0 g 3 #[.int .i64 rec])
    (A : Nat) (hA : w0.heap.size ≤ A) (L : Nat) (hL : w0.heap.size ≤ L) (X : Nat → Prop) (hR : RunInv A L lv log 0 X w) :
    Calls Tryd.prog 79 (#[.func (.func 118) #[] #[.pointer (some ⟨A, 0, none⟩), .pointer (some ⟨L, 0, none⟩)]] ++ #[.pointer (some ⟨g, 0, none⟩)]) w fun e w2 =>
      Chg (fun k => k = A ∨ (g ≤ k ∧ k < g + 1)) w w2 ∧ ((∃ a i, (Prg.load rec).run (replay log) 0 = .ok a i ∧ e = .returned (.agg #[.string a.content, .int .i64 a.seq, .int .i64 a.err])) ∨
        ∃ c i, (Prg.load rec).run (replay log) 0 = .error c i ∧ e = .panicked [{ v := pending c, recovered := false }]) := by
  have hAw := lt_of_heap hR.at_
  have hLw := lt_of_heap hR.logv
  have hsw := hw0.size'
  obtain ⟨bl, hb1, hb2⟩ : ∃ bl : Nat → Nat, bl 900001 = g ∧ bl 900002 = g + 1 := ⟨fun x => if x = 900001 then g else g + 1, rfl, rfl⟩
  have hX0 : (Pv.runD A L lv log).inv [] (fun k => X k ∨ (g ≤ k ∧ k < g + 1)) w := by
    refine ⟨hR.at_, hR.logv, hR.reads, hR.ne, hR.own, hR.le, fun k hk => ?_⟩
    rcases hk with hk | hk
    · exact hR.mine k hk
    · refine ⟨by omega, by omega, by omega, fun hn hk' => ?_⟩
      have := hlv k hk' hn; omega
  have hobs : ∀ o ∈ Pv.gtObs rec, o.x = 900001 ∧ o.t = 3 ∧ o.l = [.lit (.int .i64 rec)] := by
    intro o ho
    simp only [Pv.gtObs, List.mem_cons, List.not_mem_nil, or_false] at ho
    subst ho; exact ⟨rfl, rfl, rfl⟩
  have hSX : ∀ b, Pv.SX (Pv.gtObs rec) bl (Pv.runD A L lv log) b → b = A ∨ (g ≤ b ∧ b < g + 1) := by
    rintro b (hb | ⟨o, ho, rfl⟩)
    · exact .inl hb
    · rw [(hobs o ho).1]; omega
  have hgo := Pv.go_replay log (Prg.load rec) [] (Nat.zero_le _)
  refine (Pv.get1_fun rec hr (Pv.logO log) hlog.ob [] w (fun _ => False) [.func (.func 118) #[] #[.pointer (some ⟨A, 0, none⟩), .pointer (some ⟨L, 0, none⟩)], .pointer (some ⟨g, 0, none⟩)] bl (Pv.runD A L lv log) (fun k => X k ∨ (g ≤ k ∧ k < g + 1))
    (fun w' hc => hmem w' (hc.mono fun b _ hb => by rcases hSX b hb with h | h <;> omega))
    (fun b hb => ⟨by rcases hSX b hb with h | h <;> omega, fun h => h⟩)
    (Pv.runD_step A L lv log) (fun _ _ _ _ _ _ h _ _ => h) rfl (fun p hp => by cases hp; exact hX0) (fun h => by cases h)
    (fun o ho => ?_) (fun o ho o' ho' e => ?_) ⟨?_, ?_, trivial⟩).mono ?_
  · (obtain ⟨k1, k2, k3⟩ := hobs o ho; rw [k1, k2, k3]; exact ⟨.inr (by omega), _, by rw [hb1]; exact B0.ext hw0, .cons (.lit rfl) .nil⟩)
  · (rw [(hobs o ho).1, (hobs o' ho').1])
  · exact .w (.one (.dv rfl ⟨0, _, rfl, Nat.le_refl _, fun _ => rfl⟩))
  · exact .w (.one (.pt ⟨_, _, rfl⟩ ⟨0, _, rfl, Nat.le_refl _, fun _ => ⟨_, rfl, by rw [hb1]⟩⟩))
  rintro e w2 ⟨hc, hq⟩
  refine ⟨hc.mono fun b _ hb => hSX b hb, ?_⟩
  rcases hq with ⟨val, rfl, hres, _, hdv⟩ | ⟨chain, l, rfl, h1, h2, h3⟩
  · refine .inl ?_
    have hinv := hdv _ rfl
    have hrun := hgo.1 hinv.le
    cases hres with
    | w hres => cases hres with
      | @agg _ cs hres =>
        rw [stoRV hres]
        exact ⟨_, _, hrun, rfl⟩
  · obtain ⟨l', c, rfl, h4, rfl⟩ := h3
    refine .inr ⟨c, _, hgo.2 l' c h1.2 (List.nil_prefix) ?_, rfl⟩
    have h5 : Pv.logO log (l' ++ [c]) = none := h2
    rw [Pv.logO_snoc, List.getElem?_eq_none_iff] at h5
    omega
set_option maxHeartbeats 1000000 in
theorem put1_run (rec : Int) (hr : Pv.i64P rec) (con : ByteArray) (lv : Value) (log : List Res) (hlog : ShortL log) (g : Nat) (w0 w : World) (hw0 : Ext w0 w) (hgw : g + 2 ≤ w0.heap.size) (hlv : ∀ k, lv.ownBlock = some k → 0 < log.length → k < g) (hmem : ∀ w', Chg (fun b => g ≤ b) w w' → ShaMem w')
    (B0 : Blk w0 g 3 #[.int .i64 rec]) (B1 : Blk w0 (g + 1) 9 #[.string con])
    (A : Nat) (hA : w0.heap.size ≤ A) (L : Nat) (hL : w0.heap.size ≤ L) (X : Nat → Prop) (hR : RunInv A L lv log 0 X w) :
    Calls Tryd.prog 82 (#[.func (.func 118) #[] #[.pointer (some ⟨A, 0, none⟩), .pointer (some ⟨L, 0, none⟩)]] ++ #[.pointer (some ⟨g, 0, none⟩), .pointer (some ⟨g + 1, 0, none⟩)]) w fun e w2 =>
      Chg (fun k => k = A ∨ (g ≤ k ∧ k < g + 2)) w w2 ∧ ((∃ a i, (Prg.save rec con).run (replay log) 0 = .ok a i ∧ e = .returned (.agg #[.string a.content, .int .i64 a.seq, .int .i64 a.err])) ∨
        ∃ c i, (Prg.save rec con).run (replay log) 0 = .error c i ∧ e = .panicked [{ v := pending c, recovered := false }]) := by
  have hAw := lt_of_heap hR.at_
  have hLw := lt_of_heap hR.logv
  have hsw := hw0.size'
  obtain ⟨bl, hb1, hb2⟩ : ∃ bl : Nat → Nat, bl 900001 = g ∧ bl 900002 = g + 1 := ⟨fun x => if x = 900001 then g else g + 1, rfl, rfl⟩
  have hX0 : (Pv.runD A L lv log).inv [] (fun k => X k ∨ (g ≤ k ∧ k < g + 2)) w := by
    refine ⟨hR.at_, hR.logv, hR.reads, hR.ne, hR.own, hR.le, fun k hk => ?_⟩
    rcases hk with hk | hk
    · exact hR.mine k hk
    · refine ⟨by omega, by omega, by omega, fun hn hk' => ?_⟩
      have := hlv k hk' hn; omega
  have hobs : ∀ o ∈ Pv.ptObs rec con, (o.x = 900001 ∧ o.t = 3 ∧ o.l = [.lit (.int .i64 rec)]) ∨ (o.x = 900002 ∧ o.t = 9 ∧ o.l = [.lit (.string con)]) := by
    intro o ho
    simp only [Pv.ptObs, List.mem_cons, List.not_mem_nil, or_false] at ho
    rcases ho with rfl | rfl;  exact .inl ⟨rfl, rfl, rfl⟩;  exact .inr ⟨rfl, rfl, rfl⟩
  have hSX : ∀ b, Pv.SX (Pv.ptObs rec con) bl (Pv.runD A L lv log) b → b = A ∨ (g ≤ b ∧ b < g + 2) := by
    rintro b (hb | ⟨o, ho, rfl⟩)
    · exact .inl hb
    · rcases hobs o ho with ⟨e, _⟩ | ⟨e, _⟩ <;> rw [e] <;> omega
  have hgo := Pv.go_replay log (Prg.save rec con) [] (Nat.zero_le _)
  refine (Pv.put1_fun rec hr con (Pv.logO log) hlog.ob [] w (fun _ => False) [.func (.func 118) #[] #[.pointer (some ⟨A, 0, none⟩), .pointer (some ⟨L, 0, none⟩)], .pointer (some ⟨g, 0, none⟩), .pointer (some ⟨g + 1, 0, none⟩)] bl (Pv.runD A L lv log) (fun k => X k ∨ (g ≤ k ∧ k < g + 2))
    (fun w' hc => hmem w' (hc.mono fun b _ hb => by rcases hSX b hb with h | h <;> omega))
    (fun b hb => ⟨by rcases hSX b hb with h | h <;> omega, fun h => h⟩)
    (Pv.runD_step A L lv log) (fun _ _ _ _ _ _ h _ _ => h) rfl (fun p hp => by cases hp; exact hX0) (fun h => by cases h)
    (fun o ho => ?_) (fun o ho o' ho' e => ?_) ⟨?_, ?_, ?_, trivial⟩).mono ?_
  · rcases hobs o ho with ⟨k1, k2, k3⟩ | ⟨k1, k2, k3⟩ <;> rw [k1, k2, k3]; (exact ⟨.inr (by omega), _, by rw [hb1]; exact B0.ext hw0, .cons (.lit rfl) .nil⟩); (exact ⟨.inr (by omega), _, by rw [hb2]; exact B1.ext hw0, .cons (.lit rfl) .nil⟩)
  · rcases hobs o ho with ⟨k1, _⟩ | ⟨k1, _⟩ <;> rcases hobs o' ho' with ⟨k2, _⟩ | ⟨k2, _⟩ <;> rw [k1, k2] at e ⊢ <;> first | rfl | (exfalso; omega)
  · exact .w (.one (.dv rfl ⟨0, _, rfl, Nat.le_refl _, fun _ => rfl⟩))
  exact .w (.one (.pt ⟨_, _, rfl⟩ ⟨0, _, rfl, Nat.le_refl _, fun _ => ⟨_, rfl, by rw [hb1]⟩⟩)); exact .w (.one (.pt ⟨_, _, rfl⟩ ⟨0, _, rfl, Nat.le_refl _, fun _ => ⟨_, rfl, by rw [hb2]⟩⟩))
  rintro e w2 ⟨hc, hq⟩
  refine ⟨hc.mono fun b _ hb => hSX b hb, ?_⟩
  rcases hq with ⟨val, rfl, hres, _, hdv⟩ | ⟨chain, l, rfl, h1, h2, h3⟩
  · refine .inl ?_
    have hinv := hdv _ rfl
    have hrun := hgo.1 hinv.le
    cases hres with
    | w hres => cases hres with
      | @agg _ cs hres =>
        rw [stoRV hres]
        exact ⟨_, _, hrun, rfl⟩
  · obtain ⟨l', c, rfl, h4, rfl⟩ := h3
    refine .inr ⟨c, _, hgo.2 l' c h1.2 (List.nil_prefix) ?_, rfl⟩
    have h5 : Pv.logO log (l' ++ [c]) = none := h2
    rw [Pv.logO_snoc, List.getElem?_eq_none_iff] at h5
    omega
theorem mkfun2 : ∀ (fn : Fn) (first cap : Array Value) (w : World), (Instr.makeFunc fn first cap).run Tryd.prog w = .ok (.func fn first cap) w := fun _ _ _ _ => rfl
set_option maxHeartbeats 2000000 in
theorem get_any (rec : Int) (hr : Pv.i64P rec) (lv : Value) (log : List Res) (hlog : ShortL log) (w : World) (hM : ShaMem w) (hl : Reads w 2 lv log.length (logCells log)) :
    Calls Tryd.prog 33 #[.int .i64 rec, lv] w fun e w' => Ext w w' ∧ PlP (Prg.load rec) log e := by
  have hmf := mkfun2
  have HL := hide (And.intro hM (And.intro hl (And.intro hr hlog)))
  obtain ⟨_, B, c, rfl, _, _, _⟩ := hl
  clear hM hr hlog
  go_enter Tryd.func33, Tryd.ntmps33
  go_wp2_with fail
  have HZ : Hid (Ext w (((w.alloc (.cells #[.int .i64 rec] 3)).alloc (.cells #[.int .i64 0, .int .i64 0, .int .i64 0, .string { data := #[] }] 59)).alloc (.cells #[.string { data := #[] }, .int .i64 0, .int .i64 0] 61)) ∧ Blk (((w.alloc (.cells #[.int .i64 rec] 3)).alloc (.cells #[.int .i64 0, .int .i64 0, .int .i64 0, .string { data := #[] }] 59)).alloc (.cells #[.string { data := #[] }, .int .i64 0, .int .i64 0] 61)) w.heap.size 3 #[.int .i64 rec] ∧ Blk (((w.alloc (.cells #[.int .i64 rec] 3)).alloc (.cells #[.int .i64 0, .int .i64 0, .int .i64 0, .string { data := #[] }] 59)).alloc (.cells #[.string { data := #[] }, .int .i64 0, .int .i64 0] 61)) (w.heap.size + 1) 59 #[.int .i64 0, .int .i64 0, .int .i64 0, .string { data := #[] }] ∧ Blk (((w.alloc (.cells #[.int .i64 rec] 3)).alloc (.cells #[.int .i64 0, .int .i64 0, .int .i64 0, .string { data := #[] }] 59)).alloc (.cells #[.string { data := #[] }, .int .i64 0, .int .i64 0] 61)) (w.heap.size + 1 + 1) 61 #[.string { data := #[] }, .int .i64 0, .int .i64 0] ∧ (((w.alloc (.cells #[.int .i64 rec] 3)).alloc (.cells #[.int .i64 0, .int .i64 0, .int .i64 0, .string { data := #[] }] 59)).alloc (.cells #[.string { data := #[] }, .int .i64 0, .int .i64 0] 61)).heap.size = w.heap.size + 3) := hide
    ⟨((((Ext.refl w).alloc _).alloc _).alloc _), (((Blk.new w _ _).alloc _).alloc _), Blk.new' _ _ _ (by simp) |>.alloc _, Blk.new' _ _ _ (by simp), by simp⟩
  generalize hW0 : (((w.alloc (.cells #[.int .i64 rec] 3)).alloc (.cells #[.int .i64 0, .int .i64 0, .int .i64 0, .string { data := #[] }] 59)).alloc (.cells #[.string { data := #[] }, .int .i64 0, .int .i64 0] 61)) = W0 at *
  clear hW0
  have HR := hide (unhide HL).2.2
  refine (runO_any (p := Prg.load rec) 79 _ _ log (fun k => w.heap.size ≤ k ∧ k < w.heap.size + 1) W0 ((unhide HL).2.1.ext (unhide HZ).1) (fun args w => by kernel_rfl) (fun wa hE hsz2 hR => ?_)).mono ?_
  · refine (get1_run rec (unhide HR).1 (.slice B log.length c) log (unhide HR).2 w.heap.size W0 wa hE (by have := (unhide HZ).2.2.2.2; omega) (fun k hk hn => ?_) (fun w' hc => ?_) ((unhide HZ).2.1) (W0.heap.size + 1 + 1 + 1 + 1) (by omega) W0.heap.size (Nat.le_refl _) _ hR).mono ?_
    · exact (unhide HL).2.1.own_lt (by omega) hn k hk
    · exact (unhide HL).1.past (Nat.le_refl _) (((unhide HL).1.ext (unhide HZ).1).ext hE) hc
    · rintro e w2 ⟨hc, hq⟩
      exact ⟨hc.mono fun b hb h => (by rcases h with h | h; exact .inl h; exact .inr ⟨h, by have := (unhide HZ).2.2.2.2; omega⟩), hq⟩
  rintro e w2 ⟨hc, hq⟩
  have hX : Hid (Ext w w2) := hide ((unhide HZ).1.trans' hc (fun _ _ h => h.elim) (fun i hi e => by omega))
  have hA2 := hide ((unhide HZ).2.2.1.chg hc (by omega))
  have hO2 := hide ((unhide HZ).2.2.2.1.chg hc (by omega))
  obtain ⟨a0, a1, a2, a3, fA, lA⟩ := (unhide hA2).cells4
  obtain ⟨o0, o1, o2, fO, lO⟩ := (unhide hO2).cells3
  rcases hq with ⟨⟨xc, xs, xe⟩, i, hr, rfl⟩ | ⟨cc, i, hr, rfl⟩
  · have HV := hide hr
    clear hr hc HR HZ
    go_wp2
    refine bodyPost_ret (v := .tuple #[.agg #[.int .i64 0, .int .i64 0, .int .i64 0, .string noBytes], .agg #[.string xc, .int .i64 xs, .int .i64 xe], .bool true]) (by simp [results, Tryd.results33, go_sem, a0, a1, a2, a3, o0, o1, o2] <;> rfl) rfl ⟨?_, ?_⟩
    · have hx1 := unhide hX
      repeat' (first | (with_reducible exact Chg.refl _ _) | (with_reducible exact Ext.refl _) | (with_reducible assumption) | (with_reducible refine Chg.alloc ?_ _) | (with_reducible refine Chg.drew ?_) | (with_reducible refine Chg.drewN ?_ _) | (with_reducible refine Chg.setCell ?_ ?_ _) | (with_reducible refine Ext.alloc ?_ _) | (with_reducible refine Ext.drew ?_) | (with_reducible refine Ext.drewN ?_ _) | (with_reducible refine Ext.setCell ?_ ?_ _) | (simp; done) | (simp; omega) | omega)
    · exact .inl ⟨_, i, unhide HV, rfl⟩
  · have HV := hide hr
    clear hr hc HR HZ
    obtain ⟨ck, cb, cc', cx⟩ := cc
    simp only [Acc.v]
    go_wp2
    refine bodyPost_ret (v := .tuple #[.agg #[.int .i64 ck, .int .i64 cb, .int .i64 cc', .string cx], .agg #[.string noBytes, .int .i64 0, .int .i64 0], .bool false]) (by simp [results, Tryd.results33, go_sem, a0, a1, a2, a3, o0, o1, o2] <;> rfl) rfl ⟨?_, ?_⟩
    · have hx1 := unhide hX
      repeat' (first | (with_reducible exact Chg.refl _ _) | (with_reducible exact Ext.refl _) | (with_reducible assumption) | (with_reducible refine Chg.alloc ?_ _) | (with_reducible refine Chg.drew ?_) | (with_reducible refine Chg.drewN ?_ _) | (with_reducible refine Chg.setCell ?_ ?_ _) | (with_reducible refine Ext.alloc ?_ _) | (with_reducible refine Ext.drew ?_) | (with_reducible refine Ext.drewN ?_ _) | (with_reducible refine Ext.setCell ?_ ?_ _) | (simp; done) | (simp; omega) | omega)
    · exact .inr ⟨_, i, unhide HV, rfl⟩
set_option maxHeartbeats 2000000 in
theorem put_any (rec : Int) (hr : Pv.i64P rec) (con : ByteArray) (lv : Value) (log : List Res) (hlog : ShortL log) (w : World) (hM : ShaMem w) (hl : Reads w 2 lv log.length (logCells log)) :
    Calls Tryd.prog 37 #[.int .i64 rec, .string con, lv] w fun e w' => Ext w w' ∧ PlP (Prg.save rec con) log e := by
  have hmf := mkfun2
  have HL := hide (And.intro hM (And.intro hl (And.intro hr hlog)))
  obtain ⟨_, B, c, rfl, _, _, _⟩ := hl
  clear hM hr hlog
  go_enter Tryd.func37, Tryd.ntmps37
  go_wp2_with fail
  have HZ : Hid (Ext w ((((w.alloc (.cells #[.int .i64 rec] 3)).alloc (.cells #[.string con] 9)).alloc (.cells #[.int .i64 0, .int .i64 0, .int .i64 0, .string { data := #[] }] 59)).alloc (.cells #[.string { data := #[] }, .int .i64 0, .int .i64 0] 61)) ∧ Blk ((((w.alloc (.cells #[.int .i64 rec] 3)).alloc (.cells #[.string con] 9)).alloc (.cells #[.int .i64 0, .int .i64 0, .int .i64 0, .string { data := #[] }] 59)).alloc (.cells #[.string { data := #[] }, .int .i64 0, .int .i64 0] 61)) w.heap.size 3 #[.int .i64 rec] ∧ Blk ((((w.alloc (.cells #[.int .i64 rec] 3)).alloc (.cells #[.string con] 9)).alloc (.cells #[.int .i64 0, .int .i64 0, .int .i64 0, .string { data := #[] }] 59)).alloc (.cells #[.string { data := #[] }, .int .i64 0, .int .i64 0] 61)) (w.heap.size + 1) 9 #[.string con] ∧ Blk ((((w.alloc (.cells #[.int .i64 rec] 3)).alloc (.cells #[.string con] 9)).alloc (.cells #[.int .i64 0, .int .i64 0, .int .i64 0, .string { data := #[] }] 59)).alloc (.cells #[.string { data := #[] }, .int .i64 0, .int .i64 0] 61)) (w.heap.size + 1 + 1) 59 #[.int .i64 0, .int .i64 0, .int .i64 0, .string { data := #[] }] ∧ Blk ((((w.alloc (.cells #[.int .i64 rec] 3)).alloc (.cells #[.string con] 9)).alloc (.cells #[.int .i64 0, .int .i64 0, .int .i64 0, .string { data := #[] }] 59)).alloc (.cells #[.string { data := #[] }, .int .i64 0, .int .i64 0] 61)) (w.heap.size + 1 + 1 + 1) 61 #[.string { data := #[] }, .int .i64 0, .int .i64 0] ∧ ((((w.alloc (.cells #[.int .i64 rec] 3)).alloc (.cells #[.string con] 9)).alloc (.cells #[.int .i64 0, .int .i64 0, .int .i64 0, .string { data := #[] }] 59)).alloc (.cells #[.string { data := #[] }, .int .i64 0, .int .i64 0] 61)).heap.size = w.heap.size + 4) := hide
    ⟨(((((Ext.refl w).alloc _).alloc _).alloc _).alloc _), ((((Blk.new w _ _).alloc _).alloc _).alloc _), (((Blk.new' _ _ _ (by simp)).alloc _).alloc _), Blk.new' _ _ _ (by simp) |>.alloc _, Blk.new' _ _ _ (by simp), by simp⟩
  generalize hW0 : ((((w.alloc (.cells #[.int .i64 rec] 3)).alloc (.cells #[.string con] 9)).alloc (.cells #[.int .i64 0, .int .i64 0, .int .i64 0, .string { data := #[] }] 59)).alloc (.cells #[.string { data := #[] }, .int .i64 0, .int .i64 0] 61)) = W0 at *
  clear hW0
  have HR := hide (unhide HL).2.2
  refine (runO_any (p := Prg.save rec con) 82 _ _ log (fun k => w.heap.size ≤ k ∧ k < w.heap.size + 2) W0 ((unhide HL).2.1.ext (unhide HZ).1) (fun args w => by kernel_rfl) (fun wa hE hsz2 hR => ?_)).mono ?_
  · refine (put1_run rec (unhide HR).1 con (.slice B log.length c) log (unhide HR).2 w.heap.size W0 wa hE (by have := (unhide HZ).2.2.2.2.2; omega) (fun k hk hn => ?_) (fun w' hc => ?_) ((unhide HZ).2.1) ((unhide HZ).2.2.1) (W0.heap.size + 1 + 1 + 1 + 1) (by omega) W0.heap.size (Nat.le_refl _) _ hR).mono ?_
    · exact (unhide HL).2.1.own_lt (by omega) hn k hk
    · exact (unhide HL).1.past (Nat.le_refl _) (((unhide HL).1.ext (unhide HZ).1).ext hE) hc
    · rintro e w2 ⟨hc, hq⟩
      exact ⟨hc.mono fun b hb h => (by rcases h with h | h; exact .inl h; exact .inr ⟨h, by have := (unhide HZ).2.2.2.2.2; omega⟩), hq⟩
  rintro e w2 ⟨hc, hq⟩
  have hX : Hid (Ext w w2) := hide ((unhide HZ).1.trans' hc (fun _ _ h => h.elim) (fun i hi e => by omega))
  have hA2 := hide ((unhide HZ).2.2.2.1.chg hc (by omega))
  have hO2 := hide ((unhide HZ).2.2.2.2.1.chg hc (by omega))
  obtain ⟨a0, a1, a2, a3, fA, lA⟩ := (unhide hA2).cells4
  obtain ⟨o0, o1, o2, fO, lO⟩ := (unhide hO2).cells3
  rcases hq with ⟨⟨xc, xs, xe⟩, i, hr, rfl⟩ | ⟨cc, i, hr, rfl⟩
  · have HV := hide hr
    clear hr hc HR HZ
    go_wp2
    refine bodyPost_ret (v := .tuple #[.agg #[.int .i64 0, .int .i64 0, .int .i64 0, .string noBytes], .agg #[.string xc, .int .i64 xs, .int .i64 xe], .bool true]) (by simp [results, Tryd.results37, go_sem, a0, a1, a2, a3, o0, o1, o2] <;> rfl) rfl ⟨?_, ?_⟩
    · have hx1 := unhide hX
      repeat' (first | (with_reducible exact Chg.refl _ _) | (with_reducible exact Ext.refl _) | (with_reducible assumption) | (with_reducible refine Chg.alloc ?_ _) | (with_reducible refine Chg.drew ?_) | (with_reducible refine Chg.drewN ?_ _) | (with_reducible refine Chg.setCell ?_ ?_ _) | (with_reducible refine Ext.alloc ?_ _) | (with_reducible refine Ext.drew ?_) | (with_reducible refine Ext.drewN ?_ _) | (with_reducible refine Ext.setCell ?_ ?_ _) | (simp; done) | (simp; omega) | omega)
    · exact .inl ⟨_, i, unhide HV, rfl⟩
  · have HV := hide hr
    clear hr hc HR HZ
    obtain ⟨ck, cb, cc', cx⟩ := cc
    simp only [Acc.v]
    go_wp2
    refine bodyPost_ret (v := .tuple #[.agg #[.int .i64 ck, .int .i64 cb, .int .i64 cc', .string cx], .agg #[.string noBytes, .int .i64 0, .int .i64 0], .bool false]) (by simp [results, Tryd.results37, go_sem, a0, a1, a2, a3, o0, o1, o2] <;> rfl) rfl ⟨?_, ?_⟩
    · have hx1 := unhide hX
      repeat' (first | (with_reducible exact Chg.refl _ _) | (with_reducible exact Ext.refl _) | (with_reducible assumption) | (with_reducible refine Chg.alloc ?_ _) | (with_reducible refine Chg.drew ?_) | (with_reducible refine Chg.drewN ?_ _) | (with_reducible refine Chg.setCell ?_ ?_ _) | (with_reducible refine Ext.alloc ?_ _) | (with_reducible refine Ext.drew ?_) | (with_reducible refine Ext.drewN ?_ _) | (with_reducible refine Ext.setCell ?_ ?_ _) | (simp; done) | (simp; omega) | omega)
    · exact .inr ⟨_, i, unhide HV, rfl⟩
namespace Pv
def zeroAcc : Acc := ⟨0, 0, 0, noBytes⟩
def plR (p : Prg StO) (log : List Res) : Acc × StO × Bool := match p.run (replay log) 0 with
  | .ok a _ => (zeroAcc, a, true)
  | .error c _ => (c, ⟨noBytes, 0, 0⟩, false)
def plPV (x : Acc × StO × Bool) : PV := .tup [.agg (accPC x.1), .agg (stoPC x.2.1), .one (.lit (.bool x.2.2))]
theorem acc_rl {C : Ctx} (a : Acc) : RL C (accPC a) [.int .i64 a.kind, .int .i64 a.bank, .int .i64 a.cell, .string a.bytes] := .cons (xs := [_]) (.lit rfl) (.cons (xs := [_]) (.lit rfl) (.cons (xs := [_]) (.lit rfl) (.cons (xs := [_]) (.lit rfl) .nil)))
theorem sto_rl {C : Ctx} (a : StO) : RL C (stoPC a) [.string a.content, .int .i64 a.seq, .int .i64 a.err] := .cons (xs := [_]) (.lit rfl) (.cons (xs := [_]) (.lit rfl) (.cons (xs := [_]) (.lit rfl) .nil))
theorem rv_three {C : Ctx} {l1 l2 : List PC} {c1 c2 : Array Value} {b : Bool} (h1 : RL C l1 c1.toList) (h2 : RL C l2 c2.toList) : RV C (.tup [.agg l1, .agg l2, .one (.lit (.bool b))]) (.tuple #[.agg c1, .agg c2, .bool b]) :=
  .tup rfl (fun i x hx => by
    match i, hx with
    | 0, hx => cases hx; exact ⟨_, rfl, .agg h1⟩
    | 1, hx => cases hx; exact ⟨_, rfl, .agg h2⟩
    | 2, hx => cases hx; exact ⟨_, rfl, .one (.lit rfl)⟩
    | i + 3, hx => cases hx)
theorem plP_rv {p : Prg StO} {log : List Res} {e : Ending} (hp : PlP p log e) (C : Ctx) : ∃ val, e = .returned val ∧ RV C (plPV (plR p log)) val := by
  rcases hp with ⟨a, i, hr, rfl⟩ | ⟨c, i, hr, rfl⟩
  · refine ⟨_, rfl, ?_⟩
    unfold plR
    rw [hr]
    exact rv_three (acc_rl zeroAcc) (sto_rl a)
  · refine ⟨_, rfl, ?_⟩
    unfold plR
    rw [hr]
    exact rv_three (acc_rl c) (sto_rl ⟨noBytes, 0, 0⟩)
def getG : List PV → Option (Prop × PV)
  | [.w (.one (.lit (.int .i64 rec))), .w (.one c)] => (match rsOf c with
    | some (p, log) => some (p ∧ i64P rec ∧ ShortL log, plPV (plR (Prg.load rec) log))
    | none => none)
  | _ => none
def putG : List PV → Option (Prop × PV)
  | [.w (.one (.lit (.int .i64 rec))), .w (.one (.lit (.string con))), .w (.one c)] => (match rsOf c with
    | some (p, log) => some (p ∧ i64P rec ∧ ShortL log, plPV (plR (Prg.save rec con) log))
    | none => none)
  | _ => none
theorem get_spec : SpecOk Tryd.prog ShaMem 33 (funSpec true getG) := by
  refine funSpec_ok (call_enters Tryd.func33 (by kernel_rfl) rfl) (fun xs p r hg hp w ok0 vs hI hv => ?_)
  unfold getG at hg
  split at hg
  · rename_i rec c
    cases hq : rsOf c with
    | none => rw [hq] at hg; cases hg
    | some q =>
      obtain ⟨p', log⟩ := q
      rw [hq] at hg
      cases hg
      match vs, hv with
      | [v1, v2], ⟨k1, k2, _⟩ =>
        obtain rfl := k1.lit_inv
        have hl := rsOf_ok hq hp.1 k2.inv
        refine (get_any rec hp.2.1 v2 log hp.2.2 w hI hl).mono ?_
        rintro e w' ⟨hE, hP⟩
        obtain ⟨val, rfl, hr⟩ := plP_rv hP _
        exact ⟨val, rfl, hE, hr⟩
  · cases hg
theorem put_spec : SpecOk Tryd.prog ShaMem 37 (funSpec true putG) := by
  refine funSpec_ok (call_enters Tryd.func37 (by kernel_rfl) rfl) (fun xs p r hg hp w ok0 vs hI hv => ?_)
  unfold putG at hg
  split at hg
  · rename_i rec con c
    cases hq : rsOf c with
    | none => rw [hq] at hg; cases hg
    | some q =>
      obtain ⟨p', log⟩ := q
      rw [hq] at hg
      cases hg
      match vs, hv with
      | [v1, v2, v3], ⟨k1, k2, k3, _⟩ =>
        obtain rfl := k1.lit_inv
        obtain rfl := k2.lit_inv
        have hl := rsOf_ok hq hp.1 k3.inv
        refine (put_any rec hp.2.1 con v3 log hp.2.2 w hI hl).mono ?_
        rintro e w' ⟨hE, hP⟩
        obtain ⟨val, rfl, hr⟩ := plP_rv hP _
        exact ⟨val, rfl, hE, hr⟩
  · cases hg
end Pv
end Go.Proofs.YtoefmncdloffaaaDoor


namespace Go.Proofs.YtoefmncdloffaaaDoor.Pv
open Go.RowKit
def encK (rec seq : Int) (c : List UInt8) (k : Nat) : List UInt8 := encB seq c ++ (digestS 5 [wInt rec, encB seq c]).take k
theorem encK_length (rec seq : Int) (c : List UInt8) {k : Nat} (hk : k ≤ 16) : (encK rec seq c k).length = (encB seq c).length + k := by
  unfold encK
  rw [List.length_append, List.length_take, digestS_length]
  omega
def reSt (rec seq : Int) (c : List UInt8) (k : Nat) : St := ⟨[(7, none, pv1 (.ow 1001 0 1 0 ((encB seq c).length + k))), (8, none, pv1 (.pt 2005 0 0)), (9, none, pvI k)], [(2005, none, 0, .box 23 [.bs 16 (digestS 5 [wInt rec, encB seq c])]), (1001, none, 0, .arr 5 1 ((encB seq c).length + k) (byF (encK rec seq c k)))]⟩
set_option maxRecDepth 100000 in
theorem rencode_fun (rec seq : Int) (c : ByteArray) (h1 : i64P rec) (h2 : i64P seq) (hc : c.size ≤ 3000) : FunRow Tryd.prog ShaMem 86 [pvI rec, pvI seq, strV c] 5 1 (encS rec seq c.data.toList).length (byF (encS rec seq c.data.toList)) := by
  have M := lowM
  have hb1 : Tryd.prog.types[5].bytes = 1 := by kernel_rfl
  have hs1 : Tryd.prog.types[5].size = 1 := by kernel_rfl
  have hw1 := wInt_length seq
  have hw2 := wInt_length rec
  have hw3 := wBytes_length c.data.toList
  have hcl : c.data.toList.length = c.size := Array.length_toList
  refine funRow_of Tryd.func86 rfl rfl sha_ext (fun A hS hn hI => ?_)
  refine tri_reg M hI hn (outs := ?_) (s' := ?_) ?_ ?_ ?_ ?_
  rotate_left 2
  · rfl
  · kernel_rfl
  · simp
  refine tri_reg M hI hn (outs := ?_) (s' := ?_) ?_ ?_ ?_ ?_
  rotate_left 2
  · rfl
  · kernel_rfl
  · simp
    refine ⟨h2, by omega, ?_⟩
    rw [hb1]
    omega
  refine tri_conv (s' := ⟨[(0, none, pvI rec), (7, none, pv1 (.ow 1001 0 1 0 (encB seq c.data.toList).length))], [(1001, none, 0, .arr 5 1 (encB seq c.data.toList).length (byF (encB seq c.data.toList)))]⟩) (fun a w hg => (hg.reset (kT := [0, 7]) (kO := [1001]) (by rfl) ?_).same ?_ ?_) ?_
  · simp only [All, and_true, List.append_nil]
    exact fun i _ => cold_app2 (fun _ => rfl) (fun _ => rfl) i
  · refine .cons rfl (.cons ?_ .nil)
    rw [hs1, encB, List.length_append]
  · refine .cons (.arr ?_ (fun i hi => ?_)) .nil
    · rw [encB, List.length_append]
    · simp only [Nat.zero_add]
      exact congrFun (byF_app2 (wInt seq) (wBytes c.data.toList)) i
  have hel : (encB seq c.data.toList).length ≤ 4000 := by unfold encB; rw [List.length_append]; omega
  have hdl := digestS_length 5 [wInt rec, encB seq c.data.toList]
  refine tri_reg M hI hn (outs := ?_) (s' := ?_) ?_ ?_ ?_ ?_
  rotate_left 2
  · rfl
  · kernel_rfl
  · simp
    exact ⟨h1, by omega, by omega⟩
  refine tri_seq ?_
  refine tri_reg M hI hn (outs := ?_) (s' := ?_) ?_ ?_ ?_ ?_
  rotate_left 2
  · rfl
  · kernel_rfl
  · simp
  refine tri_conv (s' := reSt rec seq c.data.toList 0) (fun a w hg => (hg.reset (kT := [7, 8, 9]) (kO := [2005, 1001]) (by rfl) (by simp; exact fun i _ x hx => cold_byF _ i x hx)).same ?_ ?_) ?_
  · exact .cons rfl (.cons rfl (.cons rfl .nil))
  · refine .cons (.box ?_) (.cons (.arr rfl (fun i hi => ?_)) .nil)
    · simp only [rowB_byF]
      rfl
    · unfold encK
      rw [List.take_zero, List.append_nil]
  refine tri_block ?_
  refine tri_loop 16 (fun k t => t = reSt rec seq c.data.toList k) 0 rfl (by omega) (fun k t hJ hk => ?_)
  subst hJ
  refine tri_seq ?_
  refine tri_reg M hI hn (outs := ?_) (s' := ?_) ?_ ?_ ?_ ?_
  rotate_left 2
  · rfl
  · kernel_rfl
  · simp
  refine tri_cond (b := ?_) ?_ (fun hc => ?_) (fun hc => ?_)
  rotate_left 1
  · rfl
  · have hk2 : k < 16 := by
      have : (k : Int) < 16 := by simpa using hc
      omega
    refine tri_skip ?_
    change Tri _ _ _ _ _
    refine tri_seq ?_
    refine tri_block ?_
    refine tri_region M hI hn (outs := ?_) (s' := ?_) ?_ ?_ ?_ ?_
    rotate_left 2
    · rfl
    · kernel_rfl
    · simp
      rw [hb1]
      omega
    change Tri _ _ _ _ _
    refine tri_region M hI hn (outs := ?_) (s' := ?_) ?_ ?_ ?_ ?_
    rotate_left 2
    · rfl
    · kernel_rfl
    · simp
    intro a w hg
    refine ⟨k + 1, _, by omega, by omega, rfl, (hg.reset (kT := [7, 8, 9]) (kO := [2005, 1001]) (by rfl) ?_).same ?_ ?_⟩
    · simp only [All, and_true, List.append_nil, List.nil_append]
      refine fun i _ => cold_app2 (fun _ => rfl) (fun j => ?_) i
      rw [Nat.zero_add]
      cases j <;> rfl
    · exact .cons (congrArg (fun n => pv1 (.ow 1001 0 n 0 ((encB seq c.data.toList).length + (k + 1)))) hs1) (.cons rfl (.cons (by rw [wrap_nat k (by omega)]) .nil))
    · refine .cons (.box rfl) (.cons (.arr ?_ (fun i hi => ?_)) .nil)
      · rfl
      · have e : encK rec seq c.data.toList (k + 1) = encK rec seq c.data.toList k ++ [(digestS 5 [wInt rec, encB seq c.data.toList]).getD k 0] := by
          unfold encK
          rw [List.append_assoc]
          congr 1
          rw [List.take_add_one, List.getD_eq_getElem?_getD, List.getElem?_eq_getElem (by omega)]
          rfl
        have h3 := congrFun (byF_app2 (encK rec seq c.data.toList k) [(digestS 5 [wInt rec, encB seq c.data.toList]).getD k 0]) i
        rw [encK_length _ _ _ (by omega)] at h3
        rw [e, ← h3, Int.toNat_natCast]
        unfold appF
        split
        · rfl
        · rw [show i - ((encB seq c.data.toList).length + k) = 0 from by omega]
          rfl
  · have hkk : k = 16 := by
      have : ¬ (k : Int) < 16 := by simpa using hc
      omega
    subst hkk
    refine tri_exit ?_
    change Tri _ _ _ _ _
    have hend : encK rec seq c.data.toList 16 = encS rec seq c.data.toList := by
      unfold encK encS
      rw [List.take_of_length_le (by omega)]
    have hel2 : (encB seq c.data.toList).length + 16 = (encS rec seq c.data.toList).length := by rw [← hend, encK_length _ _ _ (Nat.le_refl 16)]
    refine tri_conv (s' := ⟨[(7, none, pv1 (.ow 1001 0 1 0 (encS rec seq c.data.toList).length))], [(1001, none, 0, .arr 5 1 (encS rec seq c.data.toList).length (byF (encS rec seq c.data.toList)))]⟩) (fun a w hg => (hg.reset (kT := [7]) (kO := [1001]) (by rfl) (by simp; exact fun i _ x hx => cold_byF _ i x hx)).same ?_ ?_) ?_
    · exact .cons (by rw [hel2]) .nil
    · exact .cons (.arr hel2 (fun i hi => by rw [hend])) .nil
    refine tri_reg M hI hn (outs := ?_) (s' := ?_) ?_ ?_ ?_ ?_
    rotate_left 2
    · rfl
    · kernel_rfl
    · simp
    refine tri_ret (fun a w hg => ⟨.inr rfl, _, ?_, hg⟩)
    refine rowTo_of (x := 1001) (ver := 0) (g := none) (f := ?_) (out := ?_) ?_ ?_ ?_ ?_ ?_ trivial ?_
    rotate_left 2
    · rfl
    · simp
    · rfl
    · rfl
    · rfl
    intro i hi
    exact ⟨rfl, rfl⟩
theorem renc_ok : SpecOk Tryd.prog ShaMem 86 spEnc := by
  refine rowSpec_ok (call_enters Tryd.func86 (by kernel_rfl) rfl) (fun xs p e n len f' hg hp => ?_)
  split at hg
  · rename_i rec seq c
    cases hg
    exact rencode_fun rec seq c hp.1 hp.2.1 hp.2.2
  · cases hg
def rfL1 : List (Nat × Spec) := (86, spEnc) :: stL1
theorem rf1_ok : ∀ p ∈ rfL1, SpecOk Tryd.prog ShaMem p.1 p.2 := by
  intro p hp
  rcases List.mem_cons.1 hp with rfl | hp
  · exact renc_ok
  · exact st1_ok p hp
theorem rf1M : Mach Tryd.prog ShaMem (find rfL1) := ⟨specs_of rf1_ok, mixed_⟩
def seK (b : List UInt8) (k i : Nat) : List UInt8 := ((b.drop (256 * k)).take i) ++ List.replicate (256 - ((b.drop (256 * k)).take i).length) 0
theorem seK_get (b : List UInt8) (k i j : Nat) : (seK b k i).getD j 0 = if j < i then b.getD (256 * k + j) 0 else 0 := by
  unfold seK
  rw [List.getD_eq_getElem?_getD, List.getElem?_append]
  split
  · rename_i h
    rw [List.length_take, List.length_drop] at h
    rw [List.getElem?_take, if_pos (by omega), if_pos (by omega), List.getElem?_drop, List.getD_eq_getElem?_getD]
  · rename_i h
    rw [List.length_take, List.length_drop] at h
    have h0 : ∀ n m : Nat, ((List.replicate n (0 : UInt8))[m]?).getD 0 = 0 := fun n m => by
      rw [show (List.replicate n (0 : UInt8))[m]? = if m < n then some 0 else none from List.getElem?_replicate]; split <;> rfl
    rw [h0]
    split
    · rw [List.getD_eq_getElem?_getD, List.getElem?_eq_none (by omega)]; rfl
    · rfl
theorem seK_end (b : List UInt8) (k i : Nat) (hi : i ≤ 256) (h : i = 256 ∨ b.length ≤ 256 * k + i) : seK b k i = secS b k := by
  unfold seK secS
  rcases h with rfl | h
  · rfl
  · rw [List.take_of_length_le (by rw [List.length_drop]; omega), List.take_of_length_le (i := 256) (by rw [List.length_drop]; omega)]
def seSt (b : List UInt8) (k i : Nat) : St := ⟨[(0, none, rowV b), (1, none, pvI (k : Int)), (5, none, pv1 (.ow 1000 0 1 0 256)), (6, none, pvI (i : Int))], [(1000, none, 0, .arr 5 1 256 (byF (seK b k i)))]⟩
set_option maxRecDepth 100000 in
theorem sector_fun (b : List UInt8) (k : Nat) (hk : k ≤ 1000) (_ : b.length ≤ 1000000) : FunOk Tryd.prog ShaMem 126 true [rowV b, pvI k] (strV (strOf (secS b k))) := by
  have M := st1M
  refine funOk_of Tryd.func126 rfl rfl sha_ext (fun A hS hn hI => ?_)
  refine tri_reg M hI hn (outs := ?_) (s' := ?_) ?_ ?_ ?_ ?_
  rotate_left 2
  · rfl
  · kernel_rfl
  · simp
  have hb1 : Tryd.prog.types[5].bytes = 1 := by kernel_rfl
  have hs1 : Tryd.prog.types[5].size = 1 := by kernel_rfl
  refine tri_reg M hI hn (outs := ?_) (s' := ?_) ?_ ?_ ?_ ?_
  rotate_left 2
  · rfl
  · kernel_rfl
  · simp
    rw [hb1]
    omega
  refine tri_seq ?_
  refine tri_reg M hI hn (outs := ?_) (s' := ?_) ?_ ?_ ?_ ?_
  rotate_left 2
  · rfl
  · kernel_rfl
  · simp
  refine tri_conv (s' := seSt b k 0) (fun a w hg => (hg.reset (kT := [0, 1, 5, 6]) (kO := [1000]) (by rfl) ?_).same ?_ ?_) ?_
  · exact ⟨fun i _ => rfl, trivial⟩
  · exact .cons rfl (.cons rfl (.cons (congrArg (fun n => pv1 (.ow 1000 0 n 0 256)) hs1) (.cons rfl .nil)))
  · refine .cons (.arr ?_ (fun i hi => ?_)) .nil
    · rfl
    · unfold byF
      rw [seK_get, if_neg (by omega)]
      rfl
  refine tri_block ?_
  refine tri_loop 256 (fun i t => t = seSt b k i) 0 rfl (by omega) (fun i t hJ hi => ?_)
  subst hJ
  refine tri_seq ?_
  have hwr : IntKind.i64.wrap (IntKind.i64.wrap (256 * (k : Int)) + (i : Int)) = 256 * (k : Int) + (i : Int) := by rw [wrap_i64_id (n := 256 * (k : Int)) (by omega) (by omega)]; exact wrap_i64_id (by omega) (by omega)
  refine tri_reg M hI hn (outs := ?_) (s' := ?_) ?_ ?_ ?_ ?_
  rotate_left 2
  · rfl
  · kernel_rfl
  · simp
  rw [hwr]
  refine tri_cond (b := ?_) ?_ (fun hc => ?_) (fun hc => ?_)
  rotate_left 1
  · rfl
  · have hc2 : i < 256 ∧ 256 * k + i < b.length := by simp at hc; omega
    refine tri_skip ?_
    change Tri _ _ _ _ _
    refine tri_seq ?_
    refine tri_block ?_
    refine tri_region M hI hn (outs := ?_) (s' := ?_) ?_ ?_ ?_ ?_
    rotate_left 2
    · rfl
    · kernel_rfl
    · simp
      rw [hwr]
      omega
    change Tri _ _ _ _ _
    refine tri_region M hI hn (outs := ?_) (s' := ?_) ?_ ?_ ?_ ?_
    rotate_left 2
    · rfl
    · kernel_rfl
    · simp
    intro a w hg
    refine ⟨i + 1, _, by omega, by omega, rfl, (hg.reset (kT := [0, 1, 5, 6]) (kO := [1000]) (by rfl) ?_).same ?_ ?_⟩
    · refine ⟨fun j _ => ?_, trivial⟩
      dsimp only
      split <;> rfl
    · exact .cons rfl (.cons rfl (.cons rfl (.cons (by rw [wrap_nat i (by omega)]) .nil)))
    · refine .cons (.arr rfl (fun j hj => ?_)) .nil
      rw [hwr]
      split
      · rename_i e
        obtain rfl : j = i := by omega
        unfold byF
        rw [seK_get, if_pos (by omega), show (256 * (k : Int) + (j : Int)).toNat = 256 * k + j from by omega]
        rfl
      · unfold byF
        rw [seK_get, seK_get]
        by_cases hji : j < i
        · rw [if_pos hji, if_pos (by omega)]
        · rw [if_neg hji, if_neg (by omega)]
  · have hc2 : i = 256 ∨ b.length ≤ 256 * k + i := by simp at hc; omega
    refine tri_exit ?_
    change Tri _ _ _ _ _
    refine tri_reg M hI hn (outs := ?_) (s' := ?_) ?_ ?_ ?_ ?_
    rotate_left 2
    · rfl
    · kernel_rfl
    · simp
    refine tri_ret (fun a w hg => ⟨.inr rfl, _, ?_, hg⟩)
    refine retTo_cold (out := ?_) ?_ ?_ ?_ ?_ ?_
    rotate_left 1
    · rfl
    · simp
    · rfl
    · rfl
    rw [seK_end b k i hi hc2, rowB_byF' (secS_length b k)]
    rfl
theorem same_take (b W : List UInt8) : (bif decide ((b.length : Int) < (W.length : Int)) then true else !((rowB ((W.length : Int) - 0).toNat fun i => byF b (Int.toNat 0 + i)) == rowB W.length fun i => byF W (0 + i))) = decide (b.take W.length ≠ W) := by
  rw [rowB_byF0]
  by_cases h : b.length < W.length
  · rw [decide_eq_true (by omega : (b.length : Int) < (W.length : Int)), cond_true, decide_eq_true]
    intro e
    have := congrArg List.length e
    rw [List.length_take] at this
    omega
  · rw [decide_eq_false (by omega : ¬ (b.length : Int) < (W.length : Int)), cond_false]
    have e : (rowB ((W.length : Int) - 0).toNat fun i => byF b (Int.toNat 0 + i)) = b.take W.length := by
      have := rowB_drop (L := b) (k := 0) (m := W.length) (by omega)
      rw [show ((W.length : Int) - 0).toNat = W.length from by omega]
      exact this
    rw [e]
    by_cases h2 : b.take W.length = W
    · rw [h2, beq_self_eq_true, decide_eq_false (by simp)]; rfl
    · rw [beq_eq_false_iff_ne.2 h2, decide_eq_true h2]; rfl
set_option maxRecDepth 100000 in
theorem rdecode_fun (rec : Int) (b : List UInt8) (h1 : i64P rec) (hb : b.length < 4611686018427387904) : FunOk Tryd.prog ShaMem 153 true [pvI rec, rowV b] (.tup [.one (.lit (.int .i64 (decS rec b).1)), .one (.lit (.string (strOf (decS rec b).2)))]) := by
  have M := rf1M
  have hle := getS_le b
  have hrg := getS_range b
  refine funOk_of Tryd.func153 rfl rfl sha_ext (fun A hS hn hI => ?_)
  refine tri_reg M hI hn (outs := ?_) (s' := ?_) ?_ ?_ ?_ ?_
  rotate_left 2
  · rfl
  · kernel_rfl
  · simp
  refine tri_reg M hI hn (outs := ?_) (s' := ?_) ?_ ?_ ?_ ?_
  rotate_left 2
  · rfl
  · kernel_rfl
  · simp
    exact hb
  refine tri_conv (s' := ⟨[(0, none, pvI rec), (1, none, rowV b), (6, none, pvI (getS b).1), (7, none, pvI ((getS b).2.1 : Int)), (8, none, pvI (getS b).2.2)], []⟩) (fun a w hg => (hg.reset (kT := [0, 1, 6, 7, 8]) (kO := []) (by rfl) (by simp)).same ?_ ?_) ?_
  · rw [rowB_byF]
    exact .cons rfl (.cons rfl (.cons rfl (.cons rfl (.cons rfl .nil))))
  · exact .nil
  obtain ⟨m, hm⟩ : ∃ m, decS rec b = m := ⟨_, rfl⟩
  rw [hm]
  have hcon : getBS (b.drop (getS b).2.1) = conS b := rfl
  unfold decS at hm
  have hsz := getBS_size (b.drop (getS b).2.1)
  rw [hcon, List.length_drop] at hsz
  generalize hg : getS b = g at *
  obtain ⟨q, k, e⟩ := g
  dsimp only at *
  refine tri_seq ?_
  refine tri_reg M hI hn (outs := ?_) (s' := ?_) ?_ ?_ ?_ ?_
  rotate_left 2
  · rfl
  · kernel_rfl
  · simp
  refine tri_cond (b := ?_) ?_ (fun hc => ?_) (fun hc => ?_)
  rotate_left 1
  · rfl
  · refine tri_reg M hI hn (outs := ?_) (s' := ?_) ?_ ?_ ?_ ?_
    rotate_left 2
    · rfl
    · kernel_rfl
    · simp
    refine tri_ret (fun a w hg => ⟨.inr rfl, _, ?_, hg⟩)
    refine retTo_cold (out := ?_) ?_ ?_ ?_ ?_ ?_
    rotate_left 1
    · rfl
    · simp
    · rfl
    · rfl
    have h : e ≠ 0 ∨ q < 1 ∨ 1099511627776 < q := by simp at hc; omega
    rw [if_pos h] at hm
    rw [← hm]
    rfl
  · have h : ¬ (e ≠ 0 ∨ q < 1 ∨ 1099511627776 < q) := by simp at hc; omega
    rw [if_neg h] at hm
    refine tri_skip ?_
    change Tri _ _ _ _ _
    refine tri_reg M hI hn (outs := ?_) (s' := ?_) ?_ ?_ ?_ ?_
    rotate_left 2
    · rfl
    · kernel_rfl
    · simp
      refine ⟨hle.1, ?_⟩
      unfold shortL
      rw [rowB_length]
      omega
    have erow : (rowB ((b.length : Int) - (k : Int)).toNat fun i => byF b ((k : Int).toNat + i)) = b.drop k := by
      rw [show ((b.length : Int) - (k : Int)).toNat = b.length - k from by omega, show (k : Int).toNat = k from by omega, rowB_drop (by omega)]
      exact List.take_of_length_le (by rw [List.length_drop]; exact Nat.le_refl _)
    refine tri_conv (s' := ⟨[(0, none, pvI rec), (1, none, rowV b), (6, none, pvI q), (9, none, strV (strOf (conS b).1)), (11, none, pvI (conS b).2.2)], []⟩) (fun a w hg => (hg.reset (kT := [0, 1, 6, 9, 11]) (kO := []) (by rfl) (by simp)).same ?_ ?_) ?_
    · rw [erow, hcon]
      exact .cons rfl (.cons rfl (.cons rfl (.cons rfl (.cons rfl .nil))))
    · exact .nil
    generalize conS b = c at *
    obtain ⟨s, n, e2⟩ := c
    dsimp only at *
    have hssz : (strOf s).size = s.length := strOf_size s
    refine tri_seq ?_
    refine tri_reg M hI hn (outs := ?_) (s' := ?_) ?_ ?_ ?_ ?_
    rotate_left 2
    · rfl
    · kernel_rfl
    · simp
    refine tri_cond (b := ?_) ?_ (fun hc => ?_) (fun hc => ?_)
    rotate_left 1
    · rfl
    · refine tri_reg M hI hn (outs := ?_) (s' := ?_) ?_ ?_ ?_ ?_
      rotate_left 2
      · rfl
      · kernel_rfl
      · simp
      refine tri_ret (fun a w hg => ⟨.inr rfl, _, ?_, hg⟩)
      refine retTo_cold (out := ?_) ?_ ?_ ?_ ?_ ?_
      rotate_left 1
      · rfl
      · simp
      · rfl
      · rfl
      have h2 : e2 ≠ 0 ∨ 2000 < s.length := by simp [hssz] at hc; omega
      rw [if_pos (h2.elim .inl (fun h => .inr (.inl h)))] at hm
      rw [← hm]
      rfl
    · have h2 : ¬ (e2 ≠ 0 ∨ 2000 < s.length) := by simp [hssz] at hc; omega
      refine tri_skip ?_
      change Tri _ _ _ _ _
      refine tri_reg M hI hn (outs := ?_) (s' := ?_) ?_ ?_ ?_ ?_
      rotate_left 2
      · rfl
      · kernel_rfl
      · simp
        exact ⟨h1, by unfold i64P; omega, by rw [hssz]; omega⟩
      refine tri_seq ?_
      refine tri_reg M hI hn (outs := ?_) (s' := ?_) ?_ ?_ ?_ ?_
      rotate_left 2
      · rfl
      · kernel_rfl
      · simp
        refine ⟨fun _ i _ x hx => cold_byF _ i x hx, fun hl => ?_⟩
        unfold shortL
        rw [rowB_length]
        omega
      rw [strOf_list, same_take]
      refine tri_cond (b := ?_) ?_ (fun hc => ?_) (fun hc => ?_)
      rotate_left 1
      · rfl
      · refine tri_reg M hI hn (outs := ?_) (s' := ?_) ?_ ?_ ?_ ?_
        rotate_left 2
        · rfl
        · kernel_rfl
        · simp
        refine tri_ret (fun a w hg => ⟨.inr rfl, _, ?_, hg⟩)
        refine retTo_cold (out := ?_) ?_ ?_ ?_ ?_ ?_
        rotate_left 1
        · rfl
        · simp
        · rfl
        · rfl
        have h3 : b.take (encS rec q s).length ≠ encS rec q s := of_decide_eq_true hc
        rw [if_pos (.inr (.inr h3))] at hm
        rw [← hm]
        rfl
      · refine tri_skip ?_
        change Tri _ _ _ _ _
        refine tri_reg M hI hn (outs := ?_) (s' := ?_) ?_ ?_ ?_ ?_
        rotate_left 2
        · rfl
        · kernel_rfl
        · simp
        refine tri_ret (fun a w hg => ⟨.inr rfl, _, ?_, hg⟩)
        refine retTo_cold (out := ?_) ?_ ?_ ?_ ?_ ?_
        rotate_left 1
        · rfl
        · simp
        · rfl
        · rfl
        have h3 : b.take (encS rec q s).length = encS rec q s := Classical.not_not.1 (of_decide_eq_false hc)
        rw [if_neg (fun h4 => by rcases h4 with h4 | h4 | h4; exact h2 (.inl h4); exact h2 (.inr h4); exact h4 h3)] at hm
        rw [← hm]
def secG : List PV → Option (Prop × PV)
  | [v, .w (.one (.lit (.int .i64 k)))] => (match asRow v with
    | some (p, l) => some (p ∧ 0 ≤ k ∧ k ≤ 1000 ∧ l.length ≤ 1000000, strV (strOf (secS l k.toNat)))
    | none => none)
  | _ => none
def spSect : Spec := funSpec true secG
def spRDec : Spec := funSpec true fun xs => match xs with
  | [.w (.one (.lit (.int .i64 rec))), v] => (match asRow v with
    | some (p, l) => some (p ∧ i64P rec ∧ l.length < 4611686018427387904, .tup [.one (.lit (.int .i64 (decS rec l).1)), .one (.lit (.string (strOf (decS rec l).2)))])
    | none => none)
  | _ => none
end Go.Proofs.YtoefmncdloffaaaDoor.Pv


namespace Go.Proofs.YtoefmncdloffaaaDoor
open Go.RowKit
def ansP {α : Type} : Prg α → Fl → List Res
  | .ret _, _ => []
  | .ask a k, f => ansF a f :: ansP (k (ansF a f)) (stepF (-1) a f)
theorem ansP_length {α : Type} (p : Prg α) : ∀ f, (ansP p f).length = (accP p f).length := by
  induction p with
  | ret a => intro f; rfl
  | ask a k ih => intro f; simp [ansP, accP, ih]
theorem run_take {α : Type} (p : Prg α) : ∀ (f : Fl) (pre : List Res) (k : Nat), k ≤ (accP p f).length → p.run (replay (pre ++ (ansP p f).take k)) pre.length =
    if h : k < (accP p f).length then .error ((accP p f)[k]'h) (pre.length + k) else .ok (outP p f) (pre.length + k) := by
  induction p with
  | ret a =>
    intro f pre k hk
    have : k = 0 := by simpa [accP] using hk
    subst this
    rw [dif_neg (by simp [accP])]
    rfl
  | ask a c ih =>
    intro f pre k hk
    cases k with
    | zero =>
      rw [dif_pos (by simp [accP])]
      have e : (pre ++ (ansP (.ask a c) f).take 0)[pre.length]? = none := by simp
      simp only [Prg.run, Pv.replay_none e]
      rfl
    | succ k =>
      have e : (pre ++ (ansP (.ask a c) f).take (k + 1))[pre.length]? = some (ansF a f) := by
        rw [List.getElem?_append_right (Nat.le_refl _), Nat.sub_self]
        rfl
      have e2 : pre ++ (ansP (.ask a c) f).take (k + 1) = (pre ++ [ansF a f]) ++ (ansP (c (ansF a f)) (stepF (-1) a f)).take k := by
        rw [ansP, List.take_succ_cons, List.append_assoc]
        rfl
      simp only [Prg.run, Pv.replay_some e]
      rw [e2]
      have hk2 : k ≤ (accP (c (ansF a f)) (stepF (-1) a f)).length := by simp [accP] at hk; omega
      have h3 := ih (ansF a f) (stepF (-1) a f) (pre ++ [ansF a f]) k hk2
      rw [List.length_append, List.length_singleton] at h3
      rw [h3]
      by_cases h : k < (accP (c (ansF a f)) (stepF (-1) a f)).length
      · rw [dif_pos h, dif_pos (by simp [accP]; omega)]
        simp only [accP, List.getElem_cons_succ]
        congr 1
        omega
      · rw [dif_neg h, dif_neg (by simp [accP]; omega)]
        simp only [outP]
        congr 1
        omega
namespace Pv
theorem plR_take (p : Prg StO) (f : Fl) {k : Nat} (hk : k < (accP p f).length) : plR p ((ansP p f).take k) = ((accP p f)[k]'hk, ⟨noBytes, 0, 0⟩, false) := by
  have h := run_take p f [] k (Nat.le_of_lt hk)
  rw [dif_pos hk, List.nil_append] at h
  unfold plR
  rw [show (0 : Nat) = ([] : List Res).length from rfl, h]
theorem plR_end (p : Prg StO) (f : Fl) : plR p (ansP p f) = (zeroAcc, outP p f, true) := by
  have h := run_take p f [] (accP p f).length (Nat.le_refl _)
  rw [dif_neg (by omega), List.nil_append, List.take_of_length_le (by rw [ansP_length]; exact Nat.le_refl _)] at h
  unfold plR
  rw [show (0 : Nat) = ([] : List Res).length from rfl, h]
theorem sec_short {f : Fl} (h : Sz f) (t : Int) : (strOf (sec f t)).size ≤ 256 := by
  rw [strOf_size]
  unfold sec
  split
  · rename_i q
    rw [Array.length_toList, List.getD_eq_getElem?_getD, List.getElem?_eq_getElem (by omega)]
    exact Nat.le_of_eq (h.2 _ (List.getElem_mem _))
  · simp
theorem ansF_short {f : Fl} (h : Sz f) (a : Acc) : (ansF a f).bytes.size ≤ 256 := by
  unfold ansF
  split
  · exact sec_short h _
  · exact (by decide : (0 : Nat) ≤ 256)
theorem ansP_short {α : Type} (p : Prg α) : ∀ {f : Fl}, Sz f → ∀ r ∈ ansP p f, r.bytes.size ≤ 256 := by
  induction p with
  | ret a => intro f _ r hr; cases hr
  | ask a k ih =>
    intro f h r hr
    rcases List.mem_cons.1 hr with rfl | hr
    · exact ansF_short h a
    · exact ih _ (stepF_sz h _ _) r hr
def flA {α : Type} (p : Prg α) (f : Fl) (k : Nat) : Fl := flP ((accP p f).take k) f
theorem ansP_at {α : Type} (p : Prg α) : ∀ (f : Fl) (k : Nat) (hk : k < (accP p f).length), (ansP p f)[k]? = some (ansF ((accP p f)[k]'hk) (flA p f k)) := by
  induction p with
  | ret a => intro f k hk; simp [accP] at hk
  | ask a c ih =>
    intro f k hk
    cases k with
    | zero => rfl
    | succ k =>
      have hk2 : k < (accP (c (ansF a f)) (stepF (-1) a f)).length := by simp [accP] at hk; omega
      exact ih _ _ k hk2
theorem take_next {α : Type} (p : Prg α) (f : Fl) {k : Nat} (hk : k < (accP p f).length) : (ansP p f).take (k + 1) = (ansP p f).take k ++ [ansF ((accP p f)[k]'hk) (flA p f k)] := by
  rw [List.take_add_one, ansP_at p f k hk]
  rfl
def lsL3 : List (Nat × Spec) := [(33, funSpec true getG), (37, funSpec true putG), (85, spRd), (46, spWr), (47, spNew), (35, spFirst), (36, spFirst), (86, spEnc)]
theorem ls3_ok : ∀ p ∈ lsL3, SpecOk Tryd.prog ShaMem p.1 p.2 := by
  intro p hp
  simp only [lsL3, List.mem_cons, List.not_mem_nil, or_false] at hp
  rcases hp with rfl | rfl | rfl | rfl | rfl | rfl | rfl | rfl
  · exact get_spec
  · exact put_spec
  · exact fread_ok
  · exact fwrite_ok
  · exact new_ok
  · exact first_ok
  · exact rfirst_ok
  · exact renc_ok
theorem ls3M : Mach Tryd.prog ShaMem (find lsL3) := ⟨specs_of ls3_ok, mixed_⟩
theorem rdL_reads (rec : Int) : ∀ a ∈ rdL rec, a.kind = 3 := by
  have hrd : ∀ (s : Int) (n : Nat) (a : Acc), a ∈ readsL s n → a.kind = 3 := by
    intro s n
    induction n with
    | zero => intro a ha; cases ha
    | succ n ih =>
      intro a ha
      rcases List.mem_cons.1 ha with rfl | ha
      · rfl
      · exact ih a ha
  intro a ha
  rcases List.mem_append.1 ha with ha | ha
  · exact hrd _ _ _ ha
  · exact hrd _ _ _ ha
theorem reads_flP : ∀ (L : List Acc) (f : Fl), (∀ a ∈ L, a.kind = 3) → flP L f = f
  | [], _, _ => rfl
  | a :: L, f, h => by
    have e : stepF (-1) a f = f := if_pos (h a (List.mem_cons_self))
    show flP L (stepF (-1) a f) = f
    rw [e]
    exact reads_flP L f (fun b hb => h b (List.mem_cons_of_mem _ hb))
def gtSt (f : Fl) (rec : Int) (L : List Res) (k : Nat) : St := ⟨[(1, none, pvI rec), (2, none, pv1 (.pt 0 0 0)), (4, none, pv1 (.pt 1 0 0)), (6, none, pv1 (.ow 7000 0 2 0 k)), (12, none, pvI (k : Int))], [(0, none, 0, .box 72 (flPC f)), (1, none, 0, .box 61 (stoPC ⟨noBytes, 0, 0⟩)), (7000, none, 0, .arr 118 2 k (resF (L.take k)))]⟩
theorem resF_cold (l : List Res) (i : Nat) : ∀ x ∈ resF l i, coldPC false x = true := fun x hx => by
  change x ∈ [_, _] at hx
  simp only [List.mem_cons, List.not_mem_nil, or_false] at hx
  rcases hx with rfl | rfl <;> rfl
theorem resF_snoc {X : List Res} {k : Nat} (hX : X.length = k) (r : Res) {g : Nat → List PC} (hg : g 0 = resPC r) {i : Nat} (hi : i < k + 1) : appF k (resF X) g i = resF (X ++ [r]) i := by
  unfold appF resF
  by_cases h : i < k
  · rw [if_pos h, List.getD_eq_getElem?_getD, List.getD_eq_getElem?_getD, List.getElem?_append_left (by omega)]
  · obtain rfl : i = k := by omega
    rw [if_neg h, Nat.sub_self, hg, List.getD_eq_getElem?_getD, List.getElem?_append_right (by omega), hX, Nat.sub_self]
    rfl
def gt2St (f : Fl) (rec : Int) (L : List Res) (k : Nat) (x : Acc × StO × Bool) : St := ⟨[(1, none, pvI rec), (2, none, pv1 (.pt 0 0 0)), (4, none, pv1 (.pt 1 0 0)), (6, none, pv1 (.ow 7000 0 2 0 k)), (12, none, pvI (k : Int)), (7, none, pv1 (.pt 4007 0 0)), (8, none, pv1 (.pt 4008 0 0)), (9, none, lit1 (.bool x.2.2))], [(0, none, 0, .box 72 (flPC f)), (1, none, 0, .box 61 (stoPC ⟨noBytes, 0, 0⟩)), (7000, none, 0, .arr 118 2 k (resF (L.take k))), (4007, none, 0, .box 59 (accPC x.1)), (4008, none, 0, .box 61 (stoPC x.2.1))]⟩
set_option maxRecDepth 100000 in
set_option maxHeartbeats 2000000 in
theorem get_fun (f : Fl) (rec : Int) (hf : Sz f) (h0 : 0 ≤ rec) (h3 : rec ≤ 3) : FunOk Tryd.prog ShaMem 42 true [flV f, pvI rec] (.tup [.agg (stoPC (getF f rec)), .one (.lit (.int .i64 16))]) := by
  have M := ls3M
  have hA : accP (Prg.load rec) f = rdL rec := (load_P h0 h3).1
  have hO : outP (Prg.load rec) f = getF f rec := (load_P h0 h3).2
  have hAl : (accP (Prg.load rec) f).length = 16 := by rw [hA]; rfl
  obtain ⟨L, hL⟩ : ∃ L, ansP (Prg.load rec) f = L := ⟨_, rfl⟩
  have hLl : L.length = 16 := by rw [← hL, ansP_length, hAl]
  have hLs : ∀ r ∈ L, r.bytes.size ≤ 256 := by rw [← hL]; exact ansP_short _ hf
  have hb1 : Tryd.prog.types[118].bytes = 24 := by kernel_rfl
  have hs1 : Tryd.prog.types[118].size = 2 := by kernel_rfl
  refine funOk_of Tryd.func42 rfl rfl sha_ext (fun A hS hn hI => ?_)
  refine tri_reg M hI hn (outs := ?_) (s' := ?_) ?_ ?_ ?_ ?_
  rotate_left 2
  · rfl
  · kernel_rfl
  · simp
  refine tri_reg M hI hn (outs := ?_) (s' := ?_) ?_ ?_ ?_ ?_
  rotate_left 2
  · rfl
  · kernel_rfl
  · simp
  refine tri_seq ?_
  refine tri_reg M hI hn (outs := ?_) (s' := ?_) ?_ ?_ ?_ ?_
  rotate_left 2
  · rfl
  · kernel_rfl
  · simp
  refine tri_block ?_
  refine tri_conv (s' := gtSt f rec L 0) (fun a w hg => ((hg.nilRow (x := 7000) (e := 118) (n := 2) (t := 6) (by rfl) (by rfl)).reset (kT := [1, 2, 4, 6, 12]) (kO := [0, 1, 7000]) (by rfl) (by simp)).same ?_ ?_) ?_
  · exact .cons rfl (.cons rfl (.cons rfl (.cons rfl (.cons rfl .nil))))
  · exact .cons (.box rfl) (.cons (.box rfl) (.cons (.arr rfl (fun i hi => absurd hi (by simp))) .nil))
  refine tri_loop 16 (fun k t => t = gtSt f rec L k) 0 rfl (by omega) (fun k t hJ hk => ?_)
  subst hJ
  refine tri_reg M hI hn (outs := ?_) (s' := ?_) ?_ ?_ ?_ ?_
  rotate_left 2
  · rfl
  · kernel_rfl
  · simp
  refine tri_seq ?_
  refine tri_cond (b := ?_) ?_ (fun hc => ?_) (fun hc => ?_)
  rotate_left 1
  · rfl
  · refine tri_skip ?_
    change Tri _ _ _ _ _
    refine tri_seq ?_
    refine tri_block ?_
    have hlen : (L.take k).length = k := by rw [List.length_take]; omega
    have hrow : rowRes k (resF (L.take k)) = L.take k := by
      have := rowRes_resF (L.take k)
      rw [hlen] at this
      exact this
    have hrow0 : (rowRes k fun i => resF (L.take k) (0 + i)) = L.take k := by simp only [Nat.zero_add]; exact hrow
    refine tri_reg M hI hn (outs := ?_) (s' := ?_) ?_ ?_ ?_ ?_
    rotate_left 2
    · rfl
    · kernel_rfl
    · simp
      rw [hrow]
      exact ⟨fun i _ x hx => resF_cold _ i x hx, ⟨by omega, by omega⟩, fun r hr => Nat.le_trans (hLs r (List.mem_of_mem_take hr)) (by omega)⟩
    refine tri_conv (s' := gt2St f rec L k (plR (Prg.load rec) (L.take k))) (fun a w hg => (hg.reset (kT := [1, 2, 4, 6, 12, 7, 8, 9]) (kO := [0, 1, 7000, 4007, 4008]) (by rfl) (by simp; exact fun i _ x hx => resF_cold _ i x hx)).same ?_ ?_) ?_
    · rw [hrow0]
      exact .cons rfl (.cons rfl (.cons rfl (.cons rfl (.cons rfl (.cons rfl (.cons rfl (.cons rfl .nil)))))))
    · rw [hrow0]
      exact .cons (.box rfl) (.cons (.box rfl) (.cons (.arr rfl (fun i _ => rfl)) (.cons (.box rfl) (.cons (.box rfl) .nil))))
    by_cases hk2 : k < 16
    · have hkA : k < (accP (Prg.load rec) f).length := by omega
      have hP : plR (Prg.load rec) (L.take k) = ((accP (Prg.load rec) f)[k]'hkA, ⟨noBytes, 0, 0⟩, false) := by rw [← hL]; exact plR_take _ f hkA
      have hnx : L.take (k + 1) = L.take k ++ [ansF ((accP (Prg.load rec) f)[k]'hkA) f] := by
        rw [← hL, take_next _ f hkA]
        unfold flA
        rw [reads_flP _ f (fun a ha => rdL_reads rec a (by rw [← hA]; exact List.mem_of_mem_take ha))]
      have hkind : ((accP (Prg.load rec) f)[k]'hkA).kind = 3 := rdL_reads rec _ (by rw [← hA]; exact List.getElem_mem _)
      rw [hP]
      generalize (accP (Prg.load rec) f)[k]'hkA = a at hnx hkind
      obtain ⟨ak, ab, ac, ax⟩ := a
      obtain rfl : ak = 3 := hkind
      refine tri_seq ?_
      refine tri_reg M hI hn (outs := ?_) (s' := ?_) ?_ ?_ ?_ ?_
      rotate_left 2
      · rfl
      · kernel_rfl
      · simp
      refine tri_cond (b := ?_) ?_ (fun hc => ?_) (fun hc => ?_)
      rotate_left 1
      · rfl
      · cases hc
      refine tri_skip ?_
      change Tri _ _ _ _ _
      refine tri_reg M hI hn (outs := ?_) (s' := ?_) ?_ ?_ ?_ ?_
      rotate_left 2
      · rfl
      · kernel_rfl
      · simp
      rw [fsRow_fsF]
      refine tri_reg M hI hn (outs := ?_) (s' := ?_) ?_ ?_ ?_ ?_
      rotate_left 2
      · rfl
      · kernel_rfl
      · simp
        rw [hb1]
        omega
      refine tri_reg M hI hn (outs := ?_) (s' := ?_) ?_ ?_ ?_ ?_
      rotate_left 2
      · rfl
      · kernel_rfl
      · simp
      refine tri_cond (b := ?_) ?_ (fun hc => ?_) (fun hc => ?_)
      rotate_left 1
      · rfl
      · cases hc
      refine tri_skip ?_
      change Tri _ _ _ _ _
      refine tri_region M hI hn (outs := ?_) (s' := ?_) ?_ ?_ ?_ ?_
      rotate_left 2
      · rfl
      · kernel_rfl
      · simp
      intro a w hg
      refine ⟨k + 1, _, by omega, by omega, rfl, (hg.reset (kT := [1, 2, 4, 6, 12]) (kO := [0, 1, 7000]) (by rfl) ?_).same ?_ ?_⟩
      · refine ⟨fun i _ => cold_app2 (fun _ => rfl) (fun j => ?_) i, trivial⟩
        rw [Nat.zero_add]
        cases j <;> rfl
      · exact .cons rfl (.cons rfl (.cons rfl (.cons (congrArg (fun n => pv1 (.ow 7000 0 n 0 (k + 1))) hs1) (.cons (by rw [wrap_nat k (by omega)]) .nil))))
      · refine .cons (.box rfl) (.cons (.box rfl) (.cons (.arr rfl (fun i hi => ?_)) .nil))
        rw [hnx]
        exact resF_snoc hlen _ rfl hi
    · obtain rfl : k = 16 := by omega
      have hP : plR (Prg.load rec) (L.take 16) = (zeroAcc, getF f rec, true) := by
        rw [List.take_of_length_le (by omega), ← hL, plR_end, hO]
      rw [hP]
      refine tri_seq ?_
      refine tri_reg M hI hn (outs := ?_) (s' := ?_) ?_ ?_ ?_ ?_
      rotate_left 2
      · rfl
      · kernel_rfl
      · simp
      refine tri_cond (b := ?_) ?_ (fun hc => ?_) (fun hc => ?_)
      rotate_left 1
      · rfl
      · refine tri_reg M hI hn (outs := ?_) (s' := ?_) ?_ ?_ ?_ ?_
        rotate_left 2
        · rfl
        · kernel_rfl
        · simp
        refine tri_ret (fun a w hg => ⟨.inr rfl, _, ?_, hg⟩)
        refine retTo_cold (out := ?_) ?_ ?_ ?_ ?_ ?_
        rotate_left 1
        · rfl
        · simp
        · rfl
        · rfl
        rfl
      · cases hc
  · exact absurd (of_decide_eq_false hc) (by omega)
end Pv
end Go.Proofs.YtoefmncdloffaaaDoor
