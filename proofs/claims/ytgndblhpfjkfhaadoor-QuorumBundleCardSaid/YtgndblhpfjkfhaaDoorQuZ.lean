/-
  The law QuorumBundle.
-/
import Derived.Test.YtgndblhpfjkfhaaDoorQuY
namespace Go.Proofs.YtgndblhpfjkfhaaDoor.Pv
open Go.RowKit

def stOf : PC → Option (Prop × List ByteArray)
  | .sl 1 n f => some (IsStrRow n f, rowStr n f)
  | .lit (.slice none 0 0) => some (True, [])
  | _ => none
theorem stOf_ok {C : Ctx} {c : PC} {xs : List Value} {p : Prop} {l : List ByteArray} (h : stOf c = some (p, l)) (hp : p) (hr : R C c xs) : R C (.sl 1 l.length (strF l)) xs := by
  unfold stOf at h
  split at h
  · cases h
    rw [rowStr_length]
    exact hr.sl_ext (strF_row hp)
  · cases h
    cases hr
    exact .sl (Reads.nil _ _) (fun g hg => by simp [Value.ownBlock] at hg) (fun i hi => by simp at hi)
  · cases h
def spAppr : Spec := funSpec true fun xs => match xs with
  | [k, .w (.agg [a, b, c, d, e, f])] => (match asR4 k, asR4 (.w (.agg [a, b, c, d])), sgOf e, stOf f with
    | some (p, s), some (q, m), some (r, L), some (u, T) => some (p ∧ q ∧ r ∧ u ∧ fewP L ∧ ∀ c ∈ T, c.size ≤ 10000, pvI (apprS s m L T))
    | _, _, _, _ => none)
  | _ => none
theorem bun_of {C : Ctx} {a b c d e f : PC} {x : Value} {q r u : Prop} {m : R4} {L : List Sgd} {T : List ByteArray} (h1 : asR4 (.w (.agg [a, b, c, d])) = some (q, m)) (h2 : sgOf e = some (r, L)) (h3 : stOf f = some (u, T)) (hq : q) (hr : r) (hu : u) (hv : RV C (.w (.agg [a, b, c, d, e, f])) x) : RV C (.w (.agg (bunL m L T))) x ∧ R4Ok m := by
  cases hv with
  | w hv => cases hv with
    | @agg _ cs hv =>
      obtain ⟨cs⟩ := cs
      dsimp only at hv
      cases hv with
      | cons k1 hv => cases hv with
        | cons k2 hv => cases hv with
          | cons k3 hv => cases hv with
            | cons k4 hv => cases hv with
              | cons k5 hv => cases hv with
                | cons k6 hv =>
                  cases hv
                  rename_i xa xb xc xd xe xf
                  have h4 : RV C (.w (.agg [a, b, c, d])) (.agg (xa ++ (xb ++ (xc ++ (xd ++ [])))).toArray) := .w (.agg (.cons k1 (.cons k2 (.cons k3 (.cons k4 .nil)))))
                  obtain ⟨h5, h6⟩ := asR4_ok h1 hq h4
                  refine ⟨.w (.agg ?_), h6⟩
                  cases h5 with
                  | w h5 => cases h5 with
                    | agg h5 =>
                      dsimp only at h5
                      have h7 := h5.append (RL.cons (sgOf_ok h2 hr k5) (RL.cons (stOf_ok h3 hu k6) RL.nil))
                      have e1 : (xa ++ (xb ++ (xc ++ (xd ++ [])))) ++ (xe ++ (xf ++ [])) = xa ++ (xb ++ (xc ++ (xd ++ (xe ++ (xf ++ []))))) := by simp
                      rw [e1] at h7
                      exact h7
theorem appr_ok : SpecOk Tryd.prog ShaMem 48 spAppr := by
  refine funSpec_ok (call_enters Tryd.func48 (by kernel_rfl) rfl) (fun xs p r hg hp => ?_)
  split at hg
  · rename_i k a b c d e f
    split at hg
    · rename_i p1 s q m r1 L u T e1 e2 e3 e4
      cases hg
      obtain ⟨h1, h2, h3, h4, h5, h6⟩ := hp
      intro w ok0 vs hI hV
      match vs, hV with
      | [x, y], ⟨k1, k2, _⟩ =>
        obtain ⟨j1, j2⟩ := asR4_ok e1 h1 k1
        obtain ⟨j3, j4⟩ := bun_of e2 e3 e4 h2 h3 h4 k2
        exact approve_fun s m j2 j4 L h5 T h6 w ok0 [x, y] hI ⟨j1, j3, trivial⟩
    · cases hg
  · cases hg
def quL10 : List (Nat × Spec) := (48, spAppr) :: quL9
theorem qu10_ok : ∀ p ∈ quL10, SpecOk Tryd.prog ShaMem p.1 p.2 := by
  intro p hp
  simp only [quL10, List.mem_cons] at hp
  rcases hp with rfl | hp
  · exact appr_ok
  · exact qu9_ok p hp
theorem qu10M : Mach Tryd.prog ShaMem (find quL10) := ⟨specs_of qu10_ok, mixed_⟩
def buM (v e : Nat) (T : List ByteArray) : R4 := ⟨v, 1, e, T.map stDig⟩
def buA (T : List ByteArray) (mine at' v e k : Nat) : St := ⟨[(0, none, pv1 (.sl 1 T.length (strF T))), (3, none, lit1 (.int .u8 mine)), (4, none, lit1 (.int .u8 at')), (11, none, pvB true), (12, none, pv1 (.pt 4008 0 0)), (13, none, pvI k)],
  [(4008, none, 0, .box 79 [.lit (.int .i64 v), .lit (.int .i64 1), .lit (.int .i64 e), .ow 7000 0 16 0 k]), (7000, none, 0, .arr 23 16 k (digF ((T.map stDig).take k)))]⟩
def buB (T : List ByteArray) (mine at' : Nat) (m : R4) : St := ⟨[(0, none, pv1 (.sl 1 T.length (strF T))), (3, none, lit1 (.int .u8 mine)), (4, none, lit1 (.int .u8 at')), (11, none, pvB true), (12, none, pv1 (.pt 4008 0 0))],
  [(4008, none, 0, .box 79 (r4L m))]⟩
theorem strF_set {l : List ByteArray} {k : Nat} (hk : k < l.length) (x : ByteArray) (i : Nat) : strF (l.set k x) i = if i = k then [.lit (.string x)] else strF l i := by
  unfold strF
  by_cases h : i = k
  · subst h
    rw [if_pos rfl, List.getD_eq_getElem?_getD, List.getElem?_set_self hk]
    rfl
  · rw [if_neg h, List.getD_eq_getElem?_getD, List.getElem?_set_ne (Ne.symm h), ← List.getD_eq_getElem?_getD]
theorem stk_of {T : List ByteArray} {l : List (List UInt8)} {k : Nat} (hk : k < T.length) (h0 : stOk T l = true) (x : ByteArray) (b : Bool) (hb : (stDig ((T.set k x).getD k { data := #[] }) == l.getD k []) = b) : stOk (T.set k x) l = b := by
  cases b with
  | true =>
    refine all_range.2 fun i hi => ?_
    rw [List.length_set] at hi
    by_cases h : i = k
    · subst h; exact hb
    · have h1 := all_range.1 h0 i hi
      unfold stStep at h1 ⊢
      rw [List.getD_eq_getElem?_getD, List.getElem?_set_ne (Ne.symm h), ← List.getD_eq_getElem?_getD]
      exact h1
  | false => exact Bool.eq_false_iff.2 (not_all (k := k) (by rw [List.length_set]; exact hk) hb)
def buD (_ : List ByteArray) (W : Int) (k : Nat) (m K : R4) (L : List Sgd) (T' : List ByteArray) : St := ⟨[(11, none, pvB true), (12, none, pv1 (.pt 4008 0 0)), (14, none, pv1 (.pt 11004 0 0)), (15, none, pv1 (.pt 12008 0 0)), (16, none, pvI W), (17, none, pvI k)],
  [(4008, none, 0, .box 79 (r4L m)), (11004, none, 0, .box 54 (r4L K)), (12001, none, 0, .arr 9 1 T'.length (strF T')),
   (12008, none, 0, .box 83 [.lit (.int .i64 m.a), .lit (.int .i64 m.b), .lit (.int .i64 m.c), .sl 16 m.l.length (digF m.l), .sl 4 L.length (sgdF L), .ow 12001 0 1 0 T'.length])]⟩
def buC (T : List ByteArray) (at' : Nat) (m K : R4) (L : List Sgd) (T' : List ByteArray) : St := ⟨[(0, none, pv1 (.sl 1 T.length (strF T))), (4, none, lit1 (.int .u8 at')), (11, none, pvB true), (12, none, pv1 (.pt 4008 0 0)), (14, none, pv1 (.pt 11004 0 0)), (15, none, pv1 (.pt 12008 0 0))],
  [(4008, none, 0, .box 79 (r4L m)), (11004, none, 0, .box 54 (r4L K)), (12001, none, 0, .arr 9 1 T'.length (strF T')),
   (12008, none, 0, .box 83 [.lit (.int .i64 m.a), .lit (.int .i64 m.b), .lit (.int .i64 m.c), .sl 16 m.l.length (digF m.l), .sl 4 L.length (sgdF L), .ow 12001 0 1 0 T'.length])]⟩
set_option maxRecDepth 100000 in
set_option maxHeartbeats 1000000 in
theorem qbundle_law (T : List ByteArray) (version epoch mine at' : Nat) (h1 : version ≤ 255) (h2 : epoch ≤ 255) (h3 : mine ≤ 255) (h4 : at' ≤ 255) : FunOk Tryd.prog ShaMem 10 true [pv1 (.sl 1 T.length (strF T)), lit1 (.int .u8 version), lit1 (.int .u8 epoch), lit1 (.int .u8 mine), lit1 (.int .u8 at')] (pvB true) := by
  have M := qu10M
  have wv := wrap255 version (by omega)
  have we := wrap255 epoch (by omega)
  have wm := wrap255 mine (by omega)
  have wa := wrap255 at' (by omega)
  have hbD : Tryd.prog.types[23].bytes = 16 := by kernel_rfl
  obtain ⟨v, hV⟩ : ∃ v, 1 + version % 16 = v := ⟨_, rfl⟩
  obtain ⟨e, hE⟩ : ∃ e, epoch % 4 = e := ⟨_, rfl⟩
  have e16 : (version : Int).tmod 16 = ((version % 16 : Nat) : Int) := rfl
  have e4 : (epoch : Int).tmod 4 = (e : Int) := by rw [← hE]; rfl
  have ev : IntKind.i64.wrap (1 + ((version % 16 : Nat) : Int)) = (v : Int) := by rw [show (1 : Int) + ((version % 16 : Nat) : Int) = (v : Int) by omega]; exact wrap255 _ (by omega)
  refine funOk_of Tryd.func10 rfl rfl sha_ext (fun A hS hn hI => ?_)
  refine tri_reg M hI hn (outs := ?_) (s' := ?_) ?_ ?_ ?_ ?_
  rotate_left 2
  · rfl
  · kernel_rfl
  · simp
  refine tri_reg M hI hn (outs := ?_) (s' := ?_) ?_ ?_ ?_ ?_
  rotate_left 2
  · rfl
  · kernel_rfl
  · simp
  refine tri_seq ?_
  refine tri_reg M hI hn (outs := ?_) (s' := ?_) ?_ ?_ ?_ ?_
  rotate_left 2
  · rfl
  · kernel_rfl
  · simp
  refine tri_cond (b := ?_) ?_ (fun hc => ?_) (fun hc => ?_)
  rotate_left 1
  · rfl
  · refine tri_reg M hI hn (outs := ?_) (s' := ?_) ?_ ?_ ?_ ?_
    rotate_left 2
    · rfl
    · kernel_rfl
    · simp
    refine tri_ret (fun a w hg => ⟨.inr rfl, _, ?_, hg⟩)
    refine retTo_cold (out := ?_) ?_ ?_ ?_ ?_ ?_
    rotate_left 1
    · rfl
    · simp
    · rfl
    · rfl
    rfl
  · have hTl : 1 ≤ T.length ∧ T.length ≤ 4 := by
      rcases Nat.eq_zero_or_pos T.length with h | h
      · rw [h] at hc; simp at hc
      · refine ⟨h, ?_⟩
        have h0 : ((T.length : Int) == 0) = false := beq_eq_false_iff_ne.2 (by omega)
        rw [h0] at hc
        have h9 := of_decide_eq_false (show decide ((T.length : Int) > 4) = false from hc)
        omega
    refine tri_skip ?_
    change Tri _ _ _ _ _
    refine tri_reg M hI hn (outs := ?_) (s' := ?_) ?_ ?_ ?_ ?_
    rotate_left 2
    · rfl
    · kernel_rfl
    · simp
    refine tri_seq ?_
    refine tri_reg M hI hn (outs := ?_) (s' := ?_) ?_ ?_ ?_ ?_
    rotate_left 2
    · rfl
    · kernel_rfl
    · simp
    refine tri_block ?_
    refine tri_conv (s' := buA T mine at' v e 0) (fun a w hg => ((hg.nilRowB (x := 7000) (b := 4008) (e := 23) (n := 16) (l1 := [.lit (.int .i64 (IntKind.i64.wrap (1 + (IntKind.i64.wrap (version : Int)).tmod 16))), .lit (.int .i64 1), .lit (.int .i64 ((IntKind.i64.wrap (epoch : Int)).tmod 4))]) (l2 := []) (by rfl) (by rfl)).reset (kT := [0, 3, 4, 11, 12, 13]) (kO := [4008, 7000]) (by rfl) (by simp)).same ?_ ?_) ?_
    · exact .cons rfl (.cons rfl (.cons rfl (.cons rfl (.cons rfl (.cons rfl .nil)))))
    · refine .cons (.box ?_) (.cons (.arr rfl (fun i hi => by omega)) .nil)
      rw [wv, e16, ev, we, e4]
    refine tri_loop T.length (fun k t => t = buA T mine at' v e k ∧ ∀ i, i < k → (T.getD i { data := #[] }).size ≤ 100) 0 ⟨rfl, fun i hi => by omega⟩ (by omega) (fun k t hJ hk => ?_)
    obtain ⟨rfl, hJ⟩ := hJ
    refine tri_seq ?_
    refine tri_reg M hI hn (outs := ?_) (s' := ?_) ?_ ?_ ?_ ?_
    rotate_left 2
    · rfl
    · kernel_rfl
    · simp
    refine tri_cond (b := ?_) ?_ (fun hc => ?_) (fun hc => ?_)
    rotate_left 1
    · rfl
    · have hk2 : k < T.length := by simpa using hc
      refine tri_skip ?_
      change Tri _ _ _ _ _
      refine tri_seq ?_
      refine tri_block ?_
      refine tri_seq ?_
      refine tri_reg M hI hn (outs := ?_) (s' := ?_) ?_ ?_ ?_ ?_
      rotate_left 2
      · rfl
      · kernel_rfl
      · simp
        exact hk2
      refine tri_cond (b := ?_) ?_ (fun hc => ?_) (fun hc => ?_)
      rotate_left 1
      · rfl
      · refine tri_reg M hI hn (outs := ?_) (s' := ?_) ?_ ?_ ?_ ?_
        rotate_left 2
        · rfl
        · kernel_rfl
        · simp
        refine tri_ret (fun a w hg => ⟨.inr rfl, _, ?_, hg⟩)
        refine retTo_cold (out := ?_) ?_ ?_ ?_ ?_ ?_
        rotate_left 1
        · rfl
        · simp
        · rfl
        · rfl
        try rfl
      · have hsz : (T.getD k { data := #[] }).size ≤ 100 := by
          have h9 := of_decide_eq_false (show decide (((T.getD k { data := #[] }).size : Int) > 100) = false from hc)
          omega
        have hlk : ((T.map stDig).take k).length = k := by rw [List.length_take, List.length_map]; omega
        have hst : (T.map stDig).take (k + 1) = (T.map stDig).take k ++ [stDig (T.getD k { data := #[] })] := by
          rw [List.take_add_one, List.getElem?_map, List.getElem?_eq_getElem hk2, List.getD_eq_getElem?_getD, List.getElem?_eq_getElem hk2]
          rfl
        refine tri_skip ?_
        change Tri _ _ _ _ _
        refine tri_region M hI hn (outs := ?_) (s' := ?_) ?_ ?_ ?_ ?_
        rotate_left 2
        · rfl
        · kernel_rfl
        · simp
          have hsz2 := hsz
          simp only [List.getD_eq_getElem?_getD] at hsz2
          rw [hbD]
          exact ⟨hk2, by omega, by omega⟩
        change Tri _ _ _ _ _
        refine tri_region M hI hn (outs := ?_) (s' := ?_) ?_ ?_ ?_ ?_
        rotate_left 2
        · rfl
        · kernel_rfl
        · simp
        intro a w hg
        refine ⟨k + 1, _, by omega, by omega, ⟨rfl, fun i hi => ?_⟩, (hg.reset (kT := [0, 3, 4, 11, 12, 13]) (kO := [4008, 7000]) (by rfl) ?_).same ?_ ?_⟩
        · rcases Nat.lt_or_ge i k with h | h
          · exact hJ i h
          · obtain rfl : i = k := by omega
            exact hsz
        · simp only [All, and_true, List.append_nil, List.nil_append]
          intro i hi
          unfold appF
          split
          · rfl
          · rw [show i - k = 0 from by omega]
            rfl
        · exact .cons rfl (.cons rfl (.cons rfl (.cons rfl (.cons rfl (.cons (by rw [wrap_nat k (by omega)]) .nil)))))
        · refine .cons (.box rfl) (.cons (.arr rfl (fun i hi => ?_)) .nil)
          rw [hst]
          have h1 := digF_app ((T.map stDig).take k) (stDig (T.getD k { data := #[] })) i (by rw [hlk]; exact hi)
          rw [hlk] at h1
          rw [← h1]
          unfold appF
          split
          · rfl
          · rw [show i - k = 0 from by omega]
            rfl
    · have hkk : k = T.length := by
        have : ¬ k < T.length := by simpa using hc
        omega
      subst hkk
      refine tri_exit ?_   -- exit 0
      change Tri _ _ _ _ _
      have hTs : ∀ c ∈ T, c.size ≤ 100 := fun c hc => by
        obtain ⟨i, hi, rfl⟩ := List.getElem_of_mem hc
        have := hJ i hi
        rwa [List.getD_eq_getElem?_getD, List.getElem?_eq_getElem hi] at this
      refine tri_conv (s' := buB T mine at' (buM v e T)) (fun a w hg => (hg.resetF (kF := [7000]) (kT := [0, 3, 4, 11, 12]) (kO := [4008]) (.inr hS) (by rfl) ?_).same ?_ ?_) ?_
      · simp only [All, and_true, List.append_nil, List.nil_append]
        exact fun i _ => rfl
      · exact .cons rfl (.cons rfl (.cons rfl (.cons rfl (.cons rfl .nil))))
      · refine .cons (.box ?_) .nil
        simp only [Nat.zero_add]
        unfold buM r4L
        rw [List.take_of_length_le (by simp), List.length_map]
      have hvm : mValid (buM v e T) = true := decide_eq_true (by unfold buM; simp; omega)
      have hrm : R4Ok (buM v e T) := ⟨by unfold buM i64P; dsimp only; omega, by unfold buM i64P; dsimp only; omega, by unfold buM i64P; dsimp only; omega, fun d hd => by
        unfold buM at hd
        obtain ⟨c, _, rfl⟩ := List.mem_map.1 hd
        exact digestS_length _ _⟩
      have hml : (buM v e T).l = T.map stDig := rfl
      have hmc : (buM v e T).c = (e : Int) := rfl
      generalize buM v e T = m at *
      have hmi : i64P m.a ∧ i64P m.b ∧ i64P m.c := ⟨hrm.a, hrm.b, hrm.c⟩
      obtain ⟨e2, hE2⟩ : ∃ e2, mine % 4 = e2 := ⟨_, rfl⟩
      have em : (mine : Int).tmod 4 = (e2 : Int) := by rw [← hE2]; rfl
      have hbS : Tryd.prog.types[9].bytes = 16 := by kernel_rfl
      refine tri_reg M hI hn (outs := ?_) (s' := ?_) ?_ ?_ ?_ ?_
      rotate_left 2
      · rfl
      · kernel_rfl
      · simp
      refine tri_reg M hI hn (outs := ?_) (s' := ?_) ?_ ?_ ?_ ?_
      rotate_left 2
      · rfl
      · kernel_rfl
      · simp
        rw [hbS, hml, List.length_map]
        exact ⟨by omega, hmi, by omega⟩
      refine tri_conv (s' := buC T at' m (keyset e2) (sgnsS 3 0 6 0 (r4Dig 12 m)) T) (fun a w hg => (hg.resetF (kF := [12006]) (kT := [0, 4, 11, 12, 14, 15]) (kO := [4008, 11004, 12001, 12008]) (.inr hS) (by rfl) ?_).same ?_ ?_) ?_
      · simp only [All, and_true, List.append_nil, List.nil_append, List.cons_append]
        exact ⟨fun i _ => by unfold appF; rw [if_neg (by omega)]; rfl, fun i _ => rfl⟩
      · exact .cons rfl (.cons rfl (.cons rfl (.cons rfl (.cons rfl (.cons rfl .nil)))))
      · refine .cons (.box rfl) (.cons (.box ?_) (.cons (.arr ?_ (fun i hi => ?_)) (.cons (.box ?_) .nil)))
        · rw [wm, em]
          rfl
        · rw [Nat.zero_add]
        · unfold appF
          rw [if_neg (by omega), Nat.sub_zero]
        · simp only [Nat.zero_add, rowD_digF]
          rfl
      have hvK := ksValid_keyset (e2 : Int) (by omega) (by omega)
      have hrK := keyset_r4 (e2 : Int) (by omega) (by omega)
      have hck := check_signs (s := keyset e2) (n := 3) (h := 0) (mask := 6) (ix := 0) (m := r4Dig 12 m) hvK rfl rfl (by omega) (by omega)
      have hfw := sgns_few (n := 3) (h := 0) (ix := 0) (mask := 6) (m := r4Dig 12 m) (by omega) (by omega) (by omega)
      have hKb : (keyset (e2 : Int)).b = 2 := rfl
      rw [show (((0 : Nat) : Int)) = 0 from rfl] at hck hfw
      have hL2 : (sgnsS 3 0 6 0 (r4Dig 12 m)).length = 2 := rfl
      rw [hL2, hKb, if_neg (by decide)] at hck
      generalize sgnsS 3 0 6 0 (r4Dig 12 m) = L at *
      generalize keyset (e2 : Int) = K at *
      have hKi : i64P K.a ∧ i64P K.b ∧ i64P K.c := ⟨hrK.a, hrK.b, hrK.c⟩
      have hlm : m.l.length = T.length := by rw [hml, List.length_map]
      have hA : ∀ T' : List ByteArray, T'.length = m.l.length → apprS K m L T' = if m.c > K.a then 14 else (if stOk T' m.l = true then 0 else 8) := fun T' h => by
        unfold apprS
        rw [if_pos ⟨hvK, hvm, h⟩, hck]
      have hst0 : stOk T m.l = true := all_range.2 fun i hi => by
        unfold stStep
        rw [hml, List.getD_eq_getElem?_getD, List.getD_eq_getElem?_getD, List.getElem?_map, List.getElem?_eq_getElem hi]
        simp
      have hA0 := hA T (by omega)
      rw [if_pos hst0] at hA0
      obtain ⟨k, hK⟩ : ∃ k, at' % T.length = k := ⟨_, rfl⟩
      have hk : k < T.length := by rw [← hK]; exact Nat.mod_lt _ (by omega)
      have hTb : ∀ c ∈ T, c.size ≤ 10000 := fun c hc => by have := hTs c hc; omega
      refine tri_reg M hI hn (outs := ?_) (s' := ?_) ?_ ?_ ?_ ?_
      rotate_left 2
      · rfl
      · kernel_rfl
      · simp
      refine tri_seq ?_
      refine tri_reg M hI hn (outs := ?_) (s' := ?_) ?_ ?_ ?_ ?_
      rotate_left 2
      · rfl
      · kernel_rfl
      · simp
      refine tri_cond (b := ?_) ?_ (fun hc => ?_) (fun hc => ?_)
      rotate_left 1
      · rfl
      · have hgt : m.c > K.a := of_decide_eq_true hc
        rw [if_pos hgt] at hA0
        refine tri_region M hI hn (outs := ?_) (s' := ?_) ?_ ?_ ?_ ?_
        rotate_left 2
        · rfl
        · kernel_rfl
        · simp
        change Tri _ _ _ _ _
        refine tri_seq ?_
        refine tri_reg M hI hn (outs := ?_) (s' := ?_) ?_ ?_ ?_ ?_
        rotate_left 2
        · rfl
        · kernel_rfl
        · simp
          exact ⟨fun i _ => all_cold rfl, hKi, hmi, hfw, hTb⟩
        rw [rowD_digF, rowD_digF, rowSgd_sgdF]
        simp only [Nat.zero_add]
        rw [rowStr_strF]
        refine tri_cond (b := ?_) ?_ (fun hc => ?_) (fun hc => ?_)
        rotate_left 1
        · rfl
        · have hc9 : (apprS K m L T != 14) = true := hc
          rw [hA0] at hc9
          exact absurd hc9 Bool.false_ne_true
        · refine tri_skip ?_
          change Tri _ _ _ _ _
          refine tri_reg M hI hn (outs := ?_) (s' := ?_) ?_ ?_ ?_ ?_
          rotate_left 2
          · rfl
          · kernel_rfl
          · simp
            exact List.ne_nil_of_length_pos (by omega)
          refine tri_conv (s' := buD T 14 k m K L T) (fun a w hg => (hg.reset (kT := [11, 12, 14, 15, 16, 17]) (kO := [4008, 11004, 12001, 12008]) (by rfl) ?_).same ?_ ?_) ?_
          · simp only [All, and_true, List.append_nil, List.nil_append]
            exact fun i _ => rfl
          · refine .cons rfl (.cons rfl (.cons rfl (.cons rfl (.cons rfl (.cons ?_ .nil)))))
            rw [wa, ← hK]
            rfl
          · exact .cons (.box rfl) (.cons (.box rfl) (.cons (.arr rfl (fun i hi => rfl)) (.cons (.box rfl) .nil)))
          have hszk := hTs _ (getD_mem hk { data := #[] })
          have hsp : ({ data := #[32] } : ByteArray).size = 1 := rfl
          refine tri_reg M hI hn (outs := ?_) (s' := ?_) ?_ ?_ ?_ ?_
          rotate_left 2
          · rfl
          · kernel_rfl
          · simp
            have hsz2 := hszk
            simp only [List.getD_eq_getElem?_getD] at hsz2
            exact ⟨hk, by rw [hsp]; omega⟩
          refine tri_conv (s' := buD T 14 k m K L (T.set k (T.getD k { data := #[] } ++ { data := #[32] }))) (fun a w hg => (hg.reset (kT := [11, 12, 14, 15, 16, 17]) (kO := [4008, 11004, 12001, 12008]) (by rfl) ?_).same ?_ ?_) ?_
          · simp only [All, and_true, List.append_nil, List.nil_append]
            intro i hi
            split
            · rfl
            · rfl
          · exact .cons rfl (.cons rfl (.cons rfl (.cons rfl (.cons rfl (.cons rfl .nil)))))
          · refine .cons (.box rfl) (.cons (.box rfl) (.cons (.arr (by rw [List.length_set]) (fun i hi => ?_)) (.cons (.box ?_) .nil)))
            · rw [strF_set hk]
              simp only [Nat.zero_add, Int.toNat_natCast]
              rfl
            · rw [List.length_set]
          have hT2l : (T.set k (T.getD k { data := #[] } ++ { data := #[32] })).length = T.length := List.length_set
          have hT2s : ∀ c ∈ T.set k (T.getD k { data := #[] } ++ { data := #[32] }), c.size ≤ 10000 := fun c hc => by
            rcases List.mem_or_eq_of_mem_set hc with h | h
            · exact hTb c h
            · rw [h, ByteArray.size_append, hsp]; omega
          have hA2 := hA (T.set k (T.getD k { data := #[] } ++ { data := #[32] })) (by omega)
          have hstk := stk_of (l := m.l) hk hst0 (T.getD k { data := #[] } ++ { data := #[32] })
          generalize T.set k (T.getD k { data := #[] } ++ { data := #[32] }) = T2 at *
          refine tri_seq ?_
          refine tri_reg M hI hn (outs := ?_) (s' := ?_) ?_ ?_ ?_ ?_
          rotate_left 2
          · rfl
          · kernel_rfl
          · simp
          refine tri_cond (b := ?_) ?_ (fun hc => ?_) (fun hc => ?_)
          rotate_left 1
          · rfl
          · exact absurd hc Bool.false_ne_true
          · refine tri_skip ?_
            change Tri _ _ _ _ _
            refine tri_reg M hI hn (outs := ?_) (s' := ?_) ?_ ?_ ?_ ?_
            rotate_left 2
            · rfl
            · kernel_rfl
            · simp
              exact ⟨fun i _ => all_cold rfl, hKi, hmi, hfw, hT2s⟩
            refine tri_ret (fun a w hg => ⟨.inr rfl, _, ?_, hg⟩)
            refine retTo_cold (out := ?_) ?_ ?_ ?_ ?_ ?_
            rotate_left 1
            · rfl
            · simp
            · rfl
            · rfl
            change pvB _ = pvB true
            rw [rowD_digF, rowD_digF, rowSgd_sgdF]
            simp only [Nat.zero_add]
            rw [rowStr_strF]
            have hz : apprS ⟨K.a, K.b, K.c, K.l⟩ ⟨m.a, m.b, m.c, m.l⟩ L T2 = 14 := hA2.trans (if_pos hgt)
            rw [hz]
            rfl
      · have hgt : ¬ m.c > K.a := of_decide_eq_false hc
        rw [if_neg hgt] at hA0
        refine tri_skip ?_
        change Tri _ _ _ _ _
        refine tri_seq ?_
        refine tri_reg M hI hn (outs := ?_) (s' := ?_) ?_ ?_ ?_ ?_
        rotate_left 2
        · rfl
        · kernel_rfl
        · simp
          exact ⟨fun i _ => all_cold rfl, hKi, hmi, hfw, hTb⟩
        rw [rowD_digF, rowD_digF, rowSgd_sgdF]
        simp only [Nat.zero_add]
        rw [rowStr_strF]
        refine tri_cond (b := ?_) ?_ (fun hc => ?_) (fun hc => ?_)
        rotate_left 1
        · rfl
        · have hc9 : (apprS K m L T != 0) = true := hc
          rw [hA0] at hc9
          exact absurd hc9 Bool.false_ne_true
        · refine tri_skip ?_
          change Tri _ _ _ _ _
          refine tri_reg M hI hn (outs := ?_) (s' := ?_) ?_ ?_ ?_ ?_
          rotate_left 2
          · rfl
          · kernel_rfl
          · simp
            exact List.ne_nil_of_length_pos (by omega)
          refine tri_conv (s' := buD T 0 k m K L T) (fun a w hg => (hg.reset (kT := [11, 12, 14, 15, 16, 17]) (kO := [4008, 11004, 12001, 12008]) (by rfl) ?_).same ?_ ?_) ?_
          · simp only [All, and_true, List.append_nil, List.nil_append]
            exact fun i _ => rfl
          · refine .cons rfl (.cons rfl (.cons rfl (.cons rfl (.cons rfl (.cons ?_ .nil)))))
            rw [wa, ← hK]
            rfl
          · exact .cons (.box rfl) (.cons (.box rfl) (.cons (.arr rfl (fun i hi => rfl)) (.cons (.box rfl) .nil)))
          have hszk := hTs _ (getD_mem hk { data := #[] })
          have hsp : ({ data := #[32] } : ByteArray).size = 1 := rfl
          refine tri_reg M hI hn (outs := ?_) (s' := ?_) ?_ ?_ ?_ ?_
          rotate_left 2
          · rfl
          · kernel_rfl
          · simp
            have hsz2 := hszk
            simp only [List.getD_eq_getElem?_getD] at hsz2
            exact ⟨hk, by rw [hsp]; omega⟩
          refine tri_conv (s' := buD T 0 k m K L (T.set k (T.getD k { data := #[] } ++ { data := #[32] }))) (fun a w hg => (hg.reset (kT := [11, 12, 14, 15, 16, 17]) (kO := [4008, 11004, 12001, 12008]) (by rfl) ?_).same ?_ ?_) ?_
          · simp only [All, and_true, List.append_nil, List.nil_append]
            intro i hi
            split
            · rfl
            · rfl
          · exact .cons rfl (.cons rfl (.cons rfl (.cons rfl (.cons rfl (.cons rfl .nil)))))
          · refine .cons (.box rfl) (.cons (.box rfl) (.cons (.arr (by rw [List.length_set]) (fun i hi => ?_)) (.cons (.box ?_) .nil)))
            · rw [strF_set hk]
              simp only [Nat.zero_add, Int.toNat_natCast]
              rfl
            · rw [List.length_set]
          have hT2l : (T.set k (T.getD k { data := #[] } ++ { data := #[32] })).length = T.length := List.length_set
          have hT2s : ∀ c ∈ T.set k (T.getD k { data := #[] } ++ { data := #[32] }), c.size ≤ 10000 := fun c hc => by
            rcases List.mem_or_eq_of_mem_set hc with h | h
            · exact hTb c h
            · rw [h, ByteArray.size_append, hsp]; omega
          have hA2 := hA (T.set k (T.getD k { data := #[] } ++ { data := #[32] })) (by omega)
          have hstk := stk_of (l := m.l) hk hst0 (T.getD k { data := #[] } ++ { data := #[32] })
          generalize T.set k (T.getD k { data := #[] } ++ { data := #[32] }) = T2 at *
          refine tri_seq ?_
          refine tri_reg M hI hn (outs := ?_) (s' := ?_) ?_ ?_ ?_ ?_
          rotate_left 2
          · rfl
          · kernel_rfl
          · have h2s := hT2s _ (getD_mem (show k < T2.length by omega) { data := #[] })
            simp
            simp only [List.getD_eq_getElem?_getD] at h2s
            exact ⟨by omega, h2s, by omega⟩
          refine tri_cond (b := ?_) ?_ (fun hc => ?_) (fun hc => ?_)
          rotate_left 1
          · rfl
          · have hd : stOk T2 m.l = false := by
              have h9 : (!(stDig (T2.getD (0 + ((k : Nat) : Int).toNat) { data := #[] }) == m.l.getD ((k : Nat) : Int).toNat [])) = true := hc
              simp only [Nat.zero_add, Int.toNat_natCast, Bool.not_eq_true'] at h9
              exact hstk false h9
            refine tri_region M hI hn (outs := ?_) (s' := ?_) ?_ ?_ ?_ ?_
            rotate_left 2
            · rfl
            · kernel_rfl
            · simp
            change Tri _ _ _ _ _
            refine tri_reg M hI hn (outs := ?_) (s' := ?_) ?_ ?_ ?_ ?_
            rotate_left 2
            · rfl
            · kernel_rfl
            · simp
              exact ⟨fun i _ => all_cold rfl, hKi, hmi, hfw, hT2s⟩
            refine tri_ret (fun a w hg => ⟨.inr rfl, _, ?_, hg⟩)
            refine retTo_cold (out := ?_) ?_ ?_ ?_ ?_ ?_
            rotate_left 1
            · rfl
            · simp
            · rfl
            · rfl
            change pvB _ = pvB true
            rw [rowD_digF, rowD_digF, rowSgd_sgdF]
            simp only [Nat.zero_add]
            rw [rowStr_strF]
            have hz : apprS ⟨K.a, K.b, K.c, K.l⟩ ⟨m.a, m.b, m.c, m.l⟩ L T2 = 8 := hA2.trans ((if_neg hgt).trans (if_neg (by rw [hd]; decide)))
            rw [hz]
            rfl
          · have hd : stOk T2 m.l = true := by
              have h9 : (!(stDig (T2.getD (0 + ((k : Nat) : Int).toNat) { data := #[] }) == m.l.getD ((k : Nat) : Int).toNat [])) = false := hc
              simp only [Nat.zero_add, Int.toNat_natCast, Bool.not_eq_false'] at h9
              exact hstk true h9
            refine tri_skip ?_
            change Tri _ _ _ _ _
            refine tri_reg M hI hn (outs := ?_) (s' := ?_) ?_ ?_ ?_ ?_
            rotate_left 2
            · rfl
            · kernel_rfl
            · simp
              exact ⟨fun i _ => all_cold rfl, hKi, hmi, hfw, hT2s⟩
            refine tri_ret (fun a w hg => ⟨.inr rfl, _, ?_, hg⟩)
            refine retTo_cold (out := ?_) ?_ ?_ ?_ ?_ ?_
            rotate_left 1
            · rfl
            · simp
            · rfl
            · rfl
            change pvB _ = pvB true
            rw [rowD_digF, rowD_digF, rowSgd_sgdF]
            simp only [Nat.zero_add]
            rw [rowStr_strF]
            have hz : apprS ⟨K.a, K.b, K.c, K.l⟩ ⟨m.a, m.b, m.c, m.l⟩ L T2 = 0 := hA2.trans ((if_neg hgt).trans (if_pos hd))
            rw [hz]
            rfl

end Go.Proofs.YtgndblhpfjkfhaaDoor.Pv
