
import Derived.Test.YtoefmncdloffaaaDoorLsK
namespace Go.Proofs.YtoefmncdloffaaaDoor
open Go.RowKit
open Pv (zeroFl)
def updsF (l : List Upd) (f : Fl) : Fl := l.foldl (fun f u => (putF f (nrm u)).1) f
theorem updsF_snoc (l : List Upd) (u : Upd) (f : Fl) : updsF (l ++ [u]) f = (putF (updsF l f) (nrm u)).1 := by
  unfold updsF
  rw [List.foldl_append]
  rfl
theorem upto_fine {n : Int} {f : Fl} (h : Upto n f) (hn : n ≤ 1000000) {u : Upd} (hc : u.content.size ≤ 2000) : Fine f (nrm u) := h.fine hn (nrmI_range _).1 (nrmI_range _).2 hc
theorem upto_take {l : List Upd} (hc : ∀ u ∈ l, u.content.size ≤ 2000) (hl : l.length ≤ 12) : ∀ k, k ≤ l.length → Upto (k : Int) (updsF (l.take k) zeroFl)
  | 0, _ => upto_zero
  | k + 1, hk => by
    have h := upto_take hc hl k (by omega)
    have e : l.take (k + 1) = l.take k ++ [l[k]'(by omega)] := by rw [List.take_add_one, List.getElem?_eq_getElem (by omega)]; rfl
    rw [e, updsF_snoc]
    have := h.step (upto_fine h (by omega) (hc _ (List.getElem_mem (by omega : k < l.length))))
    rw [show ((k + 1 : Nat) : Int) = (k : Int) + 1 from by omega]
    exact this
namespace Pv
def chkG : List PV → Option (Prop × PV)
  | [v0, .w (.agg [.lit (.int .i64 r), .lit (.string c), .lit (.int .i64 cut), .lit (.int .i64 b)]), v2, .w (.agg [.lit (.string oc), .lit (.int .i64 os), .lit (.int .i64 oe)]), .w (.one (.lit (.bool wh))), .w (.one (.sl 4 n fr))] =>
    (match flOf v0, flOf v2 with
    | some (p0, f), some (p2, g) => some (p0 ∧ p2 ∧ ∃ A : List Acc, n = A.length ∧ (∀ i, i < n → fr i = accF A i) ∧ ChkPre f ⟨r, c, cut, b⟩ g ⟨oc, os, oe⟩ wh A, pvB true)
    | _, _ => none)
  | _ => none
theorem chk_ok {F : Nat} (hent : ∀ args w, (callFunc F args).run Tryd.prog w = .ok (.enter F args) w) (hF : ∀ f u g o wh A, ChkPre f u g o wh A → FunOk Tryd.prog ShaMem F true (chkArgs f u g o wh A) (pvB true)) : SpecOk Tryd.prog ShaMem F (funSpec true chkG) := by
  refine funSpec_ok hent (fun xs p r hg hp => ?_)
  unfold chkG at hg
  split at hg
  · rename_i v0 r c cut b v2 oc os oe wh n fr
    cases hq0 : flOf v0 with
    | none => rw [hq0] at hg; cases hg
    | some q0 =>
      cases hq2 : flOf v2 with
      | none => rw [hq0, hq2] at hg; cases hg
      | some q2 =>
        obtain ⟨p0, f⟩ := q0
        obtain ⟨p2, g⟩ := q2
        rw [hq0, hq2] at hg
        cases hg
        obtain ⟨k0, k2, A, rfl, hA, hpre⟩ := hp
        exact (hF _ _ _ _ _ _ hpre).args fun C vs hv => by
          match vs, hv with
          | [x0, x1, x2, x3, x4, x5], ⟨h0, h1, h2, h3, h4, h5, _⟩ =>
            refine ⟨flOf_ok hq0 k0 h0, h1, flOf_ok hq2 k2 h2, h3, h4, ?_, trivial⟩
            cases h5 with
            | w h6 => cases h6 with
              | one h7 => exact .w (.one (sl_conv' hA h7))
  · cases hg
def updD : Upd := ⟨0, noBytes, 0, 0⟩
def updOf : List PC → Upd
  | [.lit (.int _ r), .lit (.string s), .lit (.int _ c), .lit (.int _ b)] => ⟨r, s, c, b⟩
  | _ => updD
def isUpd : List PC → Bool
  | [.lit (.int .i64 _), .lit (.string _), .lit (.int .i64 _), .lit (.int .i64 _)] => true
  | _ => false
theorem isUpd_ok {l : List PC} (h : isUpd l = true) : l = updPC (updOf l) := by
  unfold isUpd at h
  split at h
  · rfl
  · cases h
def rowUpd (n : Nat) (f : Nat → List PC) : List Upd := (List.range n).map fun i => updOf (f i)
def IsUpdRow (n : Nat) (f : Nat → List PC) : Prop := ∀ i, i < n → isUpd (f i) = true
@[simp] theorem rowUpd_length (n : Nat) (f : Nat → List PC) : (rowUpd n f).length = n := by simp [rowUpd]
theorem updF_row {n : Nat} {f : Nat → List PC} (h : IsUpdRow n f) : ∀ i, i < n → f i = updF (rowUpd n f) i := fun i hi => by
  unfold updF rowUpd
  rw [List.getD_eq_getElem?_getD, List.getElem?_map, List.getElem?_range hi]
  exact isUpd_ok (h i hi)
@[simp] theorem isUpdRow_updF (n : Nat) (l : List Upd) : IsUpdRow n (updF l) := fun _ _ => rfl
@[simp] theorem rowUpd_updF (l : List Upd) : rowUpd l.length (updF l) = l := by
  apply List.ext_getElem (by simp)
  intro i h1 h2
  simp only [rowUpd, List.getElem_map, List.getElem_range, updF, updPC, updOf]
  rw [List.getD_eq_getElem?_getD, List.getElem?_eq_getElem h2]
  rfl
def upOf : PC → Option (Prop × List Upd)
  | .sl 4 n f => some (IsUpdRow n f, rowUpd n f)
  | _ => none
theorem upOf_conv {C : Ctx} {c : PC} {p : Prop} {l : List Upd} (h : upOf c = some (p, l)) (hp : p) {v : Value} (hr : RV C (.w (.one c)) v) : RV C (pv1 (.sl 4 l.length (updF l))) v := by
  unfold upOf at h
  split at h
  · rename_i n f
    cases h
    cases hr with
    | w h1 => cases h1 with
      | one h2 =>
        refine .w (.one ?_)
        rw [rowUpd_length]
        exact sl_conv' (updF_row hp) h2
  · cases h
def spLim : Spec := funSpec true fun xs => match xs with
  | [.w (.one c)] => (match upOf c with
    | some (p, l) => some (p ∧ l.length ≤ 9223372036854775807, pvB (limS l))
    | none => none)
  | _ => none
theorem lim_ok : SpecOk Tryd.prog ShaMem 39 spLim := by
  refine funSpec_ok (call_enters Tryd.func39 (by kernel_rfl) rfl) (fun xs p r hg hp => ?_)
  split at hg
  · rename_i c
    cases hq : upOf c with
    | none => rw [hq] at hg; cases hg
    | some q =>
      obtain ⟨p0, l⟩ := q
      rw [hq] at hg
      cases hg
      exact (limited_fun l hp.2).args fun C vs hv => by
        match vs, hv with
        | [x], ⟨h0, _⟩ => exact ⟨upOf_conv hq hp.1 h0, trivial⟩
  · cases hg
theorem lim_facts {l : List Upd} (h : limS l = true) : (∀ u ∈ l, u.content.size ≤ 2000) ∧ l.length ≤ 12 := by
  unfold limS at h
  rw [Bool.and_eq_true] at h
  exact ⟨fun u hu => of_decide_eq_true (List.all_eq_true.1 h.1 u hu), of_decide_eq_true h.2⟩
def chV (F : Nat) : PV := lit1 (.func (.func F) #[] #[])
def usT (F : Nat) (l : List Upd) (k : Nat) : List (Nat × Option Bool × PV) := [(1, none, chV F), (5, none, pv1 (.pt 1004 0 0)), (19, none, pv1 (.sl 4 l.length (updF l))), (20, none, pvI (l.length : Int)), (21, none, pvI (k : Int))]
def usSt (F : Nat) (l : List Upd) (f : Fl) (k : Nat) : St := ⟨usT F l k, [(1004, none, 0, .box 72 (flPC f))]⟩
def us2St (F : Nat) (l : List Upd) (f : Fl) (k : Nat) (u : Upd) (g : Fl) (o : StO) (wh : Bool) (A : List Acc) : St := ⟨(8, none, pv1 (.pt 6002 0 0)) :: (9, none, pv1 (.pt 8008 0 0)) :: (10, none, pv1 (.pt 8009 0 0)) :: (11, none, pvB wh) :: (12, none, pv1 (.sl 4 A.length (accF A))) :: usT F l k,
  [(6002, none, 0, .box 74 (updPC u)), (8008, none, 0, .box 72 (flPC g)), (8009, none, 0, .box 61 (stoPC o)), (1004, none, 0, .box 72 (flPC f))]⟩
theorem putF_some {f : Fl} {u : Upd} (h : Fine f u) : 0 < (putF f u).2.2.2.length := by
  obtain ⟨m, hA, h1, h2, _⟩ := acc_take h
  rw [hA, List.length_take, full_length h]
  omega
def spUs (F : Nat) : Spec := funSpec true fun xs => match xs with
  | [.w (.one c), .w (.one (.lit v))] => (match upOf c with
    | some (p, l) => some (p ∧ v = .func (.func F) #[] #[] ∧ limS l = true, pvB true)
    | none => none)
  | _ => none
theorem us_ok {F : Nat} (h : ∀ l : List Upd, limS l = true → FunOk Tryd.prog ShaMem 40 true [pv1 (.sl 4 l.length (updF l)), chV F] (pvB true)) : SpecOk Tryd.prog ShaMem 40 (spUs F) := by
  refine funSpec_ok (call_enters Tryd.func40 (by kernel_rfl) rfl) (fun xs p r hg hp => ?_)
  split at hg
  · rename_i c v
    cases hq : upOf c with
    | none => rw [hq] at hg; cases hg
    | some q =>
      obtain ⟨p0, l⟩ := q
      rw [hq] at hg
      cases hg
      obtain ⟨k0, rfl, hl⟩ := hp
      exact (h l hl).args fun C vs hv => by
        match vs, hv with
        | [x, y], ⟨h0, h1, _⟩ => exact ⟨upOf_conv hq k0 h0, h1, trivial⟩
  · cases hg
def lwL (F : Nat) : List (Nat × Spec) := [(40, spUs F), (39, spLim), (32, spSan)]
theorem lwM {F : Nat} (h : ∀ l : List Upd, limS l = true → FunOk Tryd.prog ShaMem 40 true [pv1 (.sl 4 l.length (updF l)), chV F] (pvB true)) : Mach Tryd.prog ShaMem (find (lwL F)) := ⟨specs_of (fun p hp => by
  simp only [lwL, List.mem_cons, List.not_mem_nil, or_false] at hp
  rcases hp with rfl | rfl | rfl
  · exact us_ok h
  · exact lim_ok
  · exact san_ok), mixed_⟩
end Pv
end Go.Proofs.YtoefmncdloffaaaDoor
