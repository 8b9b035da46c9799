/-
  The law QuorumRotation.
-/
import Derived.Test.YtgndblhpfjkfhaaDoorQuW
namespace Go.Proofs.YtgndblhpfjkfhaaDoor.Pv
open Go.RowKit

def x1 : List UInt8 := 1 :: List.replicate 15 0
def rtN (e s : Nat) (k0 : List UInt8) : R4 := ⟨((e + s : Nat) : Int), 1, 0, [x1, k0]⟩
def rtA (step mask : Nat) (K : R4) : St := ⟨[(1, none, lit1 (.int .u8 step)), (2, none, lit1 (.int .u8 mask)), (7, none, pvB true), (8, none, pv1 (.pt 2004 0 0))], [(2004, none, 0, .box 54 (r4L K))]⟩
def rtB (step mask : Nat) (K : R4) (a : Int) (l : List (List UInt8)) : St := ⟨[(1, none, lit1 (.int .u8 step)), (2, none, lit1 (.int .u8 mask)), (7, none, pvB true), (8, none, pv1 (.pt 2004 0 0)), (9, none, pv1 (.pt 3013 0 0))],
  [(2004, none, 0, .box 54 (r4L K)), (3011, none, 0, .arr 23 16 2 (digF l)), (3013, none, 0, .box 54 [.lit (.int .i64 a), .lit (.int .i64 1), .lit (.int .i64 0), .ow 3011 0 16 0 2])]⟩
def rtC (step mask : Nat) (K N : R4) : St := ⟨[(1, none, lit1 (.int .u8 step)), (2, none, lit1 (.int .u8 mask)), (7, none, pvB true), (8, none, pv1 (.pt 2004 0 0)), (9, none, pv1 (.pt 3013 0 0))],
  [(2004, none, 0, .box 54 (r4L K)), (3013, none, 0, .box 54 (r4L N))]⟩
def rtD (step mask : Nat) (K N : R4) (L : List Sgd) : St := ⟨[(1, none, lit1 (.int .u8 step)), (2, none, lit1 (.int .u8 mask)), (7, none, pvB true), (8, none, pv1 (.pt 2004 0 0)), (9, none, pv1 (.pt 3013 0 0)), (10, none, pv1 (.sl 4 L.length (sgdF L)))],
  [(2004, none, 0, .box 54 (r4L K)), (3013, none, 0, .box 54 (r4L N))]⟩
def rtE (step mask : Nat) (K N : R4) (R : R4 × Int) : St := ⟨[(1, none, lit1 (.int .u8 step)), (2, none, lit1 (.int .u8 mask)), (7, none, pvB true), (8, none, pv1 (.pt 2004 0 0)), (9, none, pv1 (.pt 3013 0 0)), (11, none, pv1 (.pt 5008 0 0)), (12, none, pvI R.2)],
  [(2004, none, 0, .box 54 (r4L K)), (3013, none, 0, .box 54 (r4L N)), (5008, none, 0, .box 54 (r4L R.1))]⟩
def rtF (K N : R4) : St := ⟨[(7, none, pvB true), (8, none, pv1 (.pt 2004 0 0)), (9, none, pv1 (.pt 3013 0 0))], [(2004, none, 0, .box 54 (r4L K)), (3013, none, 0, .box 54 (r4L N))]⟩
def rtG (N T : R4) (L : List Sgd) : St := ⟨[(7, none, pvB true), (9, none, pv1 (.pt 3013 0 0)), (14, none, pv1 (.pt 13006 0 0)), (15, none, pv1 (.sl 4 L.length (sgdF L)))], [(3013, none, 0, .box 54 (r4L N)), (13006, none, 0, .box 54 (r4L T))]⟩
theorem rot_zero {s n : R4} {l : List Sgd} (h : (rotS s n l).2 = 0) : checkS s (r4Dig 13 n) l = 0 := by
  unfold rotS at h
  split at h
  · split at h
    · split at h
      · assumption
      · exact h
    · cases h
  · cases h
structure RtQ (K N : R4) (step : Nat) : Prop where
  vK : ksValid K = true
  vN : ksValid N = true
  rK : R4Ok K
  rN : R4Ok N
  next : N.a = K.a + 1 ↔ step % 3 = 1
  nl : N.l.length = 2
  nc : N.c = 0
  kl : K.l.length = 3
theorem rtQ_of (e s : Nat) (he : e ≤ 11) (hs2 : s ≤ 2) {K : R4} {k0 : List UInt8} {step : Nat} (hv : ksValid K = true) (hr : R4Ok K) (ha : K.a = (e : Int)) (hl : K.l.length = 3) (hk : k0.length = 16) (h3 : step % 3 = s) : RtQ K (rtN e s k0) step :=
  ⟨hv, decide_eq_true (by unfold rtN; simp; omega), hr,
    ⟨by unfold rtN i64P; dsimp only; omega, by unfold rtN i64P; dsimp only; omega, by unfold rtN i64P; dsimp only; omega, fun d hd => by
      unfold rtN at hd
      simp at hd
      rcases hd with rfl | rfl
      · rfl
      · exact hk⟩, by rw [ha]; show ((e + s : Nat) : Int) = (e : Int) + 1 ↔ _; omega, rfl, rfl, hl⟩
def rtT (N : R4) (l : List (List UInt8)) : R4 := ⟨N.a + 1, 1, 0, l⟩
def rtG0 (N T : R4) : St := ⟨[(7, none, pvB true), (9, none, pv1 (.pt 3013 0 0)), (14, none, pv1 (.pt 13006 0 0))], [(3013, none, 0, .box 54 (r4L N)), (13006, none, 0, .box 54 (r4L T))]⟩
def rtH (N T : R4) (L : List Sgd) (f : Int) : St := ⟨[(7, none, pvB true), (9, none, pv1 (.pt 3013 0 0)), (14, none, pv1 (.pt 13006 0 0)), (15, none, pv1 (.sl 4 L.length (sgdF L))), (17, none, pvI f)], [(3013, none, 0, .box 54 (r4L N)), (13006, none, 0, .box 54 (r4L T))]⟩
theorem check_zero6 {s : R4} {m : List UInt8} {l : List Sgd} (h : checkS s m l = 0) : ∀ k, k < l.length → sgStep s m l k = true := by
  unfold checkS at h
  split at h
  · split at h
    · split at h
      · rename_i h3
        exact all_range.1 h3
      · cases h
    · cases h
  · cases h
set_option maxRecDepth 100000 in
set_option maxHeartbeats 2000000 in
theorem qrot_law (epoch step mask : Nat) (h1 : epoch ≤ 255) (h2 : step ≤ 255) (h3 : mask ≤ 255) : FunOk Tryd.prog ShaMem 9 true [lit1 (.int .u8 epoch), lit1 (.int .u8 step), lit1 (.int .u8 mask)] (pvB true) := by
  have M := qu8M
  have we := wrap255 epoch (by omega)
  have ws := wrap255 step (by omega)
  have wk := wrap255 mask (by omega)
  have e12 : (epoch : Int).tmod 12 = ((epoch % 12 : Nat) : Int) := rfl
  have e3 : (step : Int).tmod 3 = ((step % 3 : Nat) : Int) := rfl
  obtain ⟨e, hE⟩ : ∃ e, epoch % 12 = e := ⟨_, rfl⟩
  obtain ⟨s, hS3⟩ : ∃ s, step % 3 = s := ⟨_, rfl⟩
  have he : e ≤ 11 := by omega
  have hs2 : s ≤ 2 := by omega
  have ea : IntKind.i64.wrap ((e : Int) + (s : Int)) = ((e + s : Nat) : Int) := by rw [show (e : Int) + (s : Int) = ((e + s : Nat) : Int) by omega]; exact wrap255 _ (by omega)
  refine funOk_of Tryd.func9 rfl rfl sha_ext (fun A hS hn hI => ?_)
  refine tri_reg M hI hn (outs := ?_) (s' := ?_) ?_ ?_ ?_ ?_
  rotate_left 2
  · rfl
  · kernel_rfl
  · simp
  refine tri_reg M hI hn (outs := ?_) (s' := ?_) ?_ ?_ ?_ ?_
  rotate_left 2
  · rfl
  · kernel_rfl
  · simp
  refine tri_reg M hI hn (outs := ?_) (s' := ?_) ?_ ?_ ?_ ?_
  rotate_left 2
  · rfl
  · kernel_rfl
  · simp
  refine tri_conv (s' := rtA step mask (keyset e)) (fun a w hg => (hg.reset (kT := [1, 2, 7, 8]) (kO := [2004]) (by rfl) (by simp)).same ?_ ?_) ?_
  · exact .cons rfl (.cons rfl (.cons rfl (.cons rfl .nil)))
  · refine .cons (.box ?_) .nil
    rw [we, e12, hE]
    rfl
  have hvK := ksValid_keyset (e : Int) (by omega) (by omega)
  have hrK := keyset_r4 (e : Int) (by omega) (by omega)
  have hck := fun d => check_signs (s := keyset e) (n := 3) (h := 0) (mask := (mask : Int)) (ix := 0) (m := d) hvK rfl rfl (by omega) (by omega)
  have hfw := fun d => sgns_few (n := 3) (h := 0) (ix := 0) (mask := (mask : Int)) (m := d) (by omega) (by omega) (by omega)
  have hcb : (keyset (e : Int)).b = 2 := rfl
  have hKa : (keyset (e : Int)).a = (e : Int) := rfl
  have hKl : (keyset (e : Int)).l.length = 3 := keysS_len 3 0
  have hk0 : (keyset (e : Int)).l.getD 0 [] = keyAt 0 0 := keysS_get 3 0 0 (by omega)
  have hk16 : (keyAt 0 0).length = 16 := rootT_len _ _
  simp only [hcb, sgns_count] at hck
  generalize keyset (e : Int) = K at *
  generalize keyAt 0 0 = k0 at *
  refine tri_reg M hI hn (outs := ?_) (s' := ?_) ?_ ?_ ?_ ?_
  rotate_left 2
  · rfl
  · kernel_rfl
  · simp
    rw [hKl]
    omega
  refine tri_conv (s' := rtB step mask K ((e + s : Nat) : Int) [x1, k0]) (fun a w hg => (hg.reset (kT := [1, 2, 7, 8, 9]) (kO := [2004, 3011, 3013]) (by rfl) ?_).same ?_ ?_) ?_
  · simp only [All, and_true, List.append_nil, List.nil_append]
    intro i hi
    have : i = 0 ∨ i = 1 := by omega
    rcases this with rfl | rfl <;> rfl
  · exact .cons rfl (.cons rfl (.cons rfl (.cons rfl (.cons rfl .nil))))
  · refine .cons (.box rfl) (.cons (.arr rfl (fun i hi => ?_)) (.cons (.box ?_) .nil))
    · have : i = 0 ∨ i = 1 := by omega
      rcases this with rfl | rfl
      · rfl
      · show [PC.bs 16 (K.l.getD 0 [])] = [PC.bs 16 k0]
        rw [hk0]
    · rw [ws, e3, hS3, hKa, ea]
      rfl
  refine tri_conv (s' := rtC step mask K (rtN e s k0)) (fun a w hg => (hg.resetF (kF := [3011]) (kT := [1, 2, 7, 8, 9]) (kO := [2004, 3013]) (.inr hS) (by rfl) ?_).same ?_ ?_) ?_
  · simp only [All, and_true, List.append_nil, List.nil_append]
    exact fun i _ => rfl
  · exact .cons rfl (.cons rfl (.cons rfl (.cons rfl (.cons rfl .nil))))
  · refine .cons (.box rfl) (.cons (.box ?_) .nil)
    simp only [Nat.zero_add]
    rfl
  have hq : RtQ K (rtN e s k0) step := rtQ_of e s he hs2 hvK hrK hKa hKl hk16 hS3
  generalize rtN e s k0 = N at *
  have haN : i64P N.a ∧ i64P N.b ∧ i64P N.c := ⟨hq.rN.a, hq.rN.b, hq.rN.c⟩
  have haK : i64P K.a ∧ i64P K.b ∧ i64P K.c := ⟨hq.rK.a, hq.rK.b, hq.rK.c⟩
  have hnl := hq.nl
  refine tri_reg M hI hn (outs := ?_) (s' := ?_) ?_ ?_ ?_ ?_
  rotate_left 2
  · rfl
  · kernel_rfl
  · simp
    exact ⟨haN, by omega⟩
  refine tri_conv (s' := rtD step mask K N (sgnsS 3 0 mask 0 (r4Dig 13 N))) (fun a w hg => (hg.resetF (kF := [4004]) (kT := [1, 2, 7, 8, 9, 10]) (kO := [2004, 3013]) (.inr hS) (by rfl) ?_).same ?_ ?_) ?_
  · simp only [All, and_true, List.append_nil, List.nil_append]
    exact fun i _ => rfl
  · refine .cons rfl (.cons rfl (.cons rfl (.cons rfl (.cons rfl (.cons ?_ .nil)))))
    simp only [Nat.zero_add, wk, rowD_digF]
    rfl
  · exact .cons (.box rfl) (.cons (.box rfl) .nil)
  have hck := hck (r4Dig 13 N)
  have hfw := hfw (r4Dig 13 N)
  rw [show (((0 : Nat) : Int)) = 0 from rfl] at hck hfw
  have hR : rotS K N (sgnsS 3 0 mask 0 (r4Dig 13 N)) = if step % 3 = 1 then (if cntP mask 3 < 2 then (zeroR4, 10) else (N, 0)) else (zeroR4, 14) := by
    unfold rotS
    rw [if_pos ⟨hq.vK, hq.vN⟩, hck]
    by_cases hs1 : step % 3 = 1
    · rw [if_pos (hq.next.2 hs1), if_pos hs1]
      by_cases hc2 : cntP mask 3 < 2
      · rw [if_pos (show ((cntP mask 3 : Nat) : Int) < 2 by omega), if_neg (by decide), if_pos hc2]
      · rw [if_neg (show ¬ ((cntP mask 3 : Nat) : Int) < 2 by omega), if_pos rfl, if_neg hc2]
    · rw [if_neg (fun h => hs1 (hq.next.1 h)), if_neg hs1]
  generalize sgnsS 3 0 mask 0 (r4Dig 13 N) = L at *
  refine tri_reg M hI hn (outs := ?_) (s' := ?_) ?_ ?_ ?_ ?_
  rotate_left 2
  · rfl
  · kernel_rfl
  · simp
    exact ⟨haK, haN, hfw⟩
  refine tri_conv (s' := rtE step mask K N (rotS K N L)) (fun a w hg => (hg.reset (kT := [1, 2, 7, 8, 9, 11, 12]) (kO := [2004, 3013, 5008]) (by rfl) (by simp)).same ?_ ?_) ?_
  · refine .cons rfl (.cons rfl (.cons rfl (.cons rfl (.cons rfl (.cons rfl (.cons ?_ .nil))))))
    rw [rowD_digF, rowD_digF, rowSgd_sgdF]
    try rfl
  · refine .cons (.box rfl) (.cons (.box rfl) (.cons (.box ?_) .nil))
    rw [rowD_digF, rowD_digF, rowSgd_sgdF]
    try rfl
  rw [hR]
  clear hR
  refine tri_reg M hI hn (outs := ?_) (s' := ?_) ?_ ?_ ?_ ?_
  rotate_left 2
  · rfl
  · kernel_rfl
  · simp
  refine tri_seq ?_
  refine tri_reg M hI hn (outs := ?_) (s' := ?_) ?_ ?_ ?_ ?_
  rotate_left 2
  · rfl
  · kernel_rfl
  · simp
  have hz0 : i64P 0 := ⟨by omega, by omega⟩
  have hNN : ksSame N N = true := by unfold ksSame; simp
  clear hck hfw hk0 hKl hKa hk16
  refine tri_cond (b := ?_) ?_ (fun hc => ?_) (fun hc => ?_)
  rotate_left 1
  · rfl
  · have hs1 : ¬ step % 3 = 1 := fun h => by
      have h2 : (step : Int).tmod 3 = 1 := by rw [e3]; omega
      rw [h2] at hc
      simp at hc
    rw [if_neg hs1]
    refine tri_region M hI hn (outs := ?_) (s' := ?_) ?_ ?_ ?_ ?_
    rotate_left 2
    · rfl
    · kernel_rfl
    · simp
    change Tri _ _ _ _ _
    refine tri_seq ?_
    refine tri_reg M hI hn (outs := ?_) (s' := ?_) ?_ ?_ ?_ ?_
    rotate_left 2
    · rfl
    · kernel_rfl
    · simp
      first | exact ⟨haN, by omega⟩ | exact ⟨⟨hz0, hz0, hz0⟩, hz0, by show (0 : Nat) < _; omega⟩
    refine tri_cond (b := ?_) ?_ (fun hc => ?_) (fun hc => ?_)
    rotate_left 1
    · rfl
    · first
        | exact absurd hc Bool.false_ne_true
        | (rw [rowD_digF] at hc
           have hc9 : (bif bif (0 : Int) != 0 then true else bif (0 : Int) == 0 then !ksSame N N else false then true else bif (0 : Int) != 0 then !ksSame N ⟨0, 0, 0, []⟩ else false) = true := hc
           rw [hNN] at hc9
           exact absurd hc9 Bool.false_ne_true)
    · refine tri_conv (s' := rtF K N) (fun a w hg => (hg.reset (kT := [7, 8, 9]) (kO := [2004, 3013]) (by rfl) (by simp)).same ?_ ?_) ?_
      · exact .cons rfl (.cons rfl (.cons rfl .nil))
      · exact .cons (.box rfl) (.cons (.box rfl) .nil)
      refine tri_skip ?_
      change Tri _ _ _ _ _
      have haN : i64P N.a ∧ i64P N.b ∧ i64P N.c := ⟨hq.rN.a, hq.rN.b, hq.rN.c⟩
      have hnl := hq.nl
      have hkl := hq.kl
      have hvN := ksValid_len hq.vN
      have hwN : IntKind.i64.wrap (N.a + 1) = N.a + 1 := by rw [IntKind.wrap_i64]; omega
      refine tri_reg M hI hn (outs := ?_) (s' := ?_) ?_ ?_ ?_ ?_
      rotate_left 2
      · rfl
      · kernel_rfl
      · simp
      refine tri_conv (s' := rtG0 N (rtT N K.l)) (fun a w hg => (hg.reset (kT := [7, 9, 14]) (kO := [3013, 13006]) (by rfl) (by simp)).same ?_ ?_) ?_
      · exact .cons rfl (.cons rfl (.cons rfl .nil))
      · refine .cons (.box rfl) (.cons (.box ?_) .nil)
        rw [hwN]
        rfl
      have hrT : R4Ok (rtT N K.l) := ⟨by unfold rtT i64P; dsimp only; omega, by unfold rtT i64P; dsimp only; omega, by unfold rtT i64P; dsimp only; omega, hq.rK.l⟩
      have hTl : (rtT N K.l).l.length = 3 := hkl
      generalize rtT N K.l = T at *
      have haT : i64P T.a ∧ i64P T.b ∧ i64P T.c := ⟨hrT.a, hrT.b, hrT.c⟩
      refine tri_reg M hI hn (outs := ?_) (s' := ?_) ?_ ?_ ?_ ?_
      rotate_left 2
      · rfl
      · kernel_rfl
      · simp
        exact ⟨haT, by omega⟩
      refine tri_conv (s' := rtG N T (sgnsS 1 0 1 0 (r4Dig 13 T))) (fun a w hg => (hg.resetF (kF := [14002]) (kT := [7, 9, 14, 15]) (kO := [3013, 13006]) (.inr hS) (by rfl) ?_).same ?_ ?_) ?_
      · simp only [All, and_true, List.append_nil, List.nil_append]
        exact fun i _ => rfl
      · refine .cons rfl (.cons rfl (.cons rfl (.cons ?_ .nil)))
        simp only [Nat.zero_add, rowD_digF]
        rfl
      · exact .cons (.box rfl) (.cons (.box rfl) .nil)
      have hfO := sgns_few (n := 1) (h := 0) (ix := 0) (mask := 1) (m := r4Dig 13 T) (by omega) (by omega) (by omega)
      rw [show (((0 : Nat) : Int)) = 0 from rfl] at hfO
      have hOl : (sgnsS 1 0 1 0 (r4Dig 13 T)).length = 1 := rfl
      have hOm : ((sgnsS 1 0 1 0 (r4Dig 13 T)).getD 0 default).maker = 0 := rfl
      generalize sgnsS 1 0 1 0 (r4Dig 13 T) = O at *
      refine tri_reg M hI hn (outs := ?_) (s' := ?_) ?_ ?_ ?_ ?_
      rotate_left 2
      · rfl
      · kernel_rfl
      · simp
        exact ⟨haN, haT, hfO⟩
      refine tri_conv (s' := rtH N T O (rotS N T O).2) (fun a w hg => (hg.reset (kT := [7, 9, 14, 15, 17]) (kO := [3013, 13006]) (by rfl) (by simp)).same ?_ ?_) ?_
      · refine .cons rfl (.cons rfl (.cons rfl (.cons rfl (.cons ?_ .nil))))
        rw [rowD_digF, rowD_digF, rowSgd_sgdF]
        try rfl
      · exact .cons (.box rfl) (.cons (.box rfl) .nil)
      have hp0 := hfO.2 _ (getD_mem (show 0 < O.length by omega) default)
      have hnc := hq.nc
      refine tri_reg M hI hn (outs := ?_) (s' := ?_) ?_ ?_ ?_ ?_
      rotate_left 2
      · rfl
      · kernel_rfl
      · simp
        simp only [List.getD_eq_getElem?_getD] at hp0
        exact ⟨fun _ => by omega, fun _ => ⟨haT, by omega⟩, fun _ => by omega, fun _ => hp0⟩
      refine tri_reg M hI hn (outs := ?_) (s' := ?_) ?_ ?_ ?_ ?_
      rotate_left 2
      · rfl
      · kernel_rfl
      · simp
      refine tri_ret (fun a w hg => ⟨.inr rfl, _, ?_, hg⟩)
      refine retTo_cold (out := ?_) ?_ ?_ ?_ ?_ ?_
      rotate_left 1
      · rfl
      · simp
      · rfl
      · rfl
      change pvB _ = pvB true
      rw [rowD_digF, rowD_digF, rowD_digF]
      refine congrArg pvB ?_
      by_cases h0 : (rotS N T O).2 = 0
      · have hs := check_zero6 (rot_zero h0) 0 (by omega)
        have hs2 : verS (N.l.getD 0 []) 0 (r4Dig 13 T) ⟨(O.getD 0 default).sig.index, (O.getD 0 default).sig.chain, (O.getD 0 default).sig.path⟩ = true := by
          unfold sgStep at hs
          rw [hOm, hnc] at hs
          exact hs
        have hs3 : verS (N.l.getD (Int.toNat 0) []) 0 (r4Dig 13 ⟨T.a, T.b, T.c, T.l⟩) ⟨(O.getD (Int.toNat 0) default).sig.index, (O.getD (Int.toNat 0) default).sig.chain, (O.getD (Int.toNat 0) default).sig.path⟩ = true := hs2
        rw [h0, hOl, hs3]
        rfl
      · have hne : ((rotS N T O).2 != 0) = true := by simpa using h0
        rw [hne]
        rfl
  · have hs1 : step % 3 = 1 := by
      have h2 : (step : Int).tmod 3 = 1 := by simpa using hc
      rw [e3] at h2
      omega
    rw [if_pos hs1]
    refine tri_reg M hI hn (outs := ?_) (s' := ?_) ?_ ?_ ?_ ?_
    rotate_left 2
    · rfl
    · kernel_rfl
    · simp
      rw [wk]
      omega
    refine tri_cond (b := ?_) ?_ (fun hc => ?_) (fun hc => ?_)
    rotate_left 1
    · rfl
    · have hc2 : cntP mask 3 < 2 := by
        rw [wk] at hc
        have hc8 : ((cntP mask 3 : Nat) : Int) < 2 := of_decide_eq_true hc
        omega
      rw [if_pos hc2]
      refine tri_region M hI hn (outs := ?_) (s' := ?_) ?_ ?_ ?_ ?_
      rotate_left 2
      · rfl
      · kernel_rfl
      · simp
      change Tri _ _ _ _ _
      refine tri_seq ?_
      refine tri_reg M hI hn (outs := ?_) (s' := ?_) ?_ ?_ ?_ ?_
      rotate_left 2
      · rfl
      · kernel_rfl
      · simp
        first | exact ⟨haN, by omega⟩ | exact ⟨⟨hz0, hz0, hz0⟩, hz0, by show (0 : Nat) < _; omega⟩
      refine tri_cond (b := ?_) ?_ (fun hc => ?_) (fun hc => ?_)
      rotate_left 1
      · rfl
      · first
          | exact absurd hc Bool.false_ne_true
          | (rw [rowD_digF] at hc
             have hc9 : (bif bif (0 : Int) != 0 then true else bif (0 : Int) == 0 then !ksSame N N else false then true else bif (0 : Int) != 0 then !ksSame N ⟨0, 0, 0, []⟩ else false) = true := hc
             rw [hNN] at hc9
             exact absurd hc9 Bool.false_ne_true)
      · refine tri_conv (s' := rtF K N) (fun a w hg => (hg.reset (kT := [7, 8, 9]) (kO := [2004, 3013]) (by rfl) (by simp)).same ?_ ?_) ?_
        · exact .cons rfl (.cons rfl (.cons rfl .nil))
        · exact .cons (.box rfl) (.cons (.box rfl) .nil)
        refine tri_skip ?_
        change Tri _ _ _ _ _
        have haN : i64P N.a ∧ i64P N.b ∧ i64P N.c := ⟨hq.rN.a, hq.rN.b, hq.rN.c⟩
        have hnl := hq.nl
        have hkl := hq.kl
        have hvN := ksValid_len hq.vN
        have hwN : IntKind.i64.wrap (N.a + 1) = N.a + 1 := by rw [IntKind.wrap_i64]; omega
        refine tri_reg M hI hn (outs := ?_) (s' := ?_) ?_ ?_ ?_ ?_
        rotate_left 2
        · rfl
        · kernel_rfl
        · simp
        refine tri_conv (s' := rtG0 N (rtT N K.l)) (fun a w hg => (hg.reset (kT := [7, 9, 14]) (kO := [3013, 13006]) (by rfl) (by simp)).same ?_ ?_) ?_
        · exact .cons rfl (.cons rfl (.cons rfl .nil))
        · refine .cons (.box rfl) (.cons (.box ?_) .nil)
          rw [hwN]
          rfl
        have hrT : R4Ok (rtT N K.l) := ⟨by unfold rtT i64P; dsimp only; omega, by unfold rtT i64P; dsimp only; omega, by unfold rtT i64P; dsimp only; omega, hq.rK.l⟩
        have hTl : (rtT N K.l).l.length = 3 := hkl
        generalize rtT N K.l = T at *
        have haT : i64P T.a ∧ i64P T.b ∧ i64P T.c := ⟨hrT.a, hrT.b, hrT.c⟩
        refine tri_reg M hI hn (outs := ?_) (s' := ?_) ?_ ?_ ?_ ?_
        rotate_left 2
        · rfl
        · kernel_rfl
        · simp
          exact ⟨haT, by omega⟩
        refine tri_conv (s' := rtG N T (sgnsS 1 0 1 0 (r4Dig 13 T))) (fun a w hg => (hg.resetF (kF := [14002]) (kT := [7, 9, 14, 15]) (kO := [3013, 13006]) (.inr hS) (by rfl) ?_).same ?_ ?_) ?_
        · simp only [All, and_true, List.append_nil, List.nil_append]
          exact fun i _ => rfl
        · refine .cons rfl (.cons rfl (.cons rfl (.cons ?_ .nil)))
          simp only [Nat.zero_add, rowD_digF]
          rfl
        · exact .cons (.box rfl) (.cons (.box rfl) .nil)
        have hfO := sgns_few (n := 1) (h := 0) (ix := 0) (mask := 1) (m := r4Dig 13 T) (by omega) (by omega) (by omega)
        rw [show (((0 : Nat) : Int)) = 0 from rfl] at hfO
        have hOl : (sgnsS 1 0 1 0 (r4Dig 13 T)).length = 1 := rfl
        have hOm : ((sgnsS 1 0 1 0 (r4Dig 13 T)).getD 0 default).maker = 0 := rfl
        generalize sgnsS 1 0 1 0 (r4Dig 13 T) = O at *
        refine tri_reg M hI hn (outs := ?_) (s' := ?_) ?_ ?_ ?_ ?_
        rotate_left 2
        · rfl
        · kernel_rfl
        · simp
          exact ⟨haN, haT, hfO⟩
        refine tri_conv (s' := rtH N T O (rotS N T O).2) (fun a w hg => (hg.reset (kT := [7, 9, 14, 15, 17]) (kO := [3013, 13006]) (by rfl) (by simp)).same ?_ ?_) ?_
        · refine .cons rfl (.cons rfl (.cons rfl (.cons rfl (.cons ?_ .nil))))
          rw [rowD_digF, rowD_digF, rowSgd_sgdF]
          try rfl
        · exact .cons (.box rfl) (.cons (.box rfl) .nil)
        have hp0 := hfO.2 _ (getD_mem (show 0 < O.length by omega) default)
        have hnc := hq.nc
        refine tri_reg M hI hn (outs := ?_) (s' := ?_) ?_ ?_ ?_ ?_
        rotate_left 2
        · rfl
        · kernel_rfl
        · simp
          simp only [List.getD_eq_getElem?_getD] at hp0
          exact ⟨fun _ => by omega, fun _ => ⟨haT, by omega⟩, fun _ => by omega, fun _ => hp0⟩
        refine tri_reg M hI hn (outs := ?_) (s' := ?_) ?_ ?_ ?_ ?_
        rotate_left 2
        · rfl
        · kernel_rfl
        · simp
        refine tri_ret (fun a w hg => ⟨.inr rfl, _, ?_, hg⟩)
        refine retTo_cold (out := ?_) ?_ ?_ ?_ ?_ ?_
        rotate_left 1
        · rfl
        · simp
        · rfl
        · rfl
        change pvB _ = pvB true
        rw [rowD_digF, rowD_digF, rowD_digF]
        refine congrArg pvB ?_
        by_cases h0 : (rotS N T O).2 = 0
        · have hs := check_zero6 (rot_zero h0) 0 (by omega)
          have hs2 : verS (N.l.getD 0 []) 0 (r4Dig 13 T) ⟨(O.getD 0 default).sig.index, (O.getD 0 default).sig.chain, (O.getD 0 default).sig.path⟩ = true := by
            unfold sgStep at hs
            rw [hOm, hnc] at hs
            exact hs
          have hs3 : verS (N.l.getD (Int.toNat 0) []) 0 (r4Dig 13 ⟨T.a, T.b, T.c, T.l⟩) ⟨(O.getD (Int.toNat 0) default).sig.index, (O.getD (Int.toNat 0) default).sig.chain, (O.getD (Int.toNat 0) default).sig.path⟩ = true := hs2
          rw [h0, hOl, hs3]
          rfl
        · have hne : ((rotS N T O).2 != 0) = true := by simpa using h0
          rw [hne]
          rfl
    · have hc2 : ¬ cntP mask 3 < 2 := by
        rw [wk] at hc
        have hc8 : ¬ ((cntP mask 3 : Nat) : Int) < 2 := of_decide_eq_false hc
        omega
      rw [if_neg hc2]
      refine tri_skip ?_
      change Tri _ _ _ _ _
      refine tri_seq ?_
      refine tri_reg M hI hn (outs := ?_) (s' := ?_) ?_ ?_ ?_ ?_
      rotate_left 2
      · rfl
      · kernel_rfl
      · simp
        first | exact ⟨haN, by omega⟩ | exact ⟨⟨hz0, hz0, hz0⟩, hz0, by show (0 : Nat) < _; omega⟩
      refine tri_cond (b := ?_) ?_ (fun hc => ?_) (fun hc => ?_)
      rotate_left 1
      · rfl
      · first
          | exact absurd hc Bool.false_ne_true
          | (rw [rowD_digF] at hc
             have hc9 : (bif bif (0 : Int) != 0 then true else bif (0 : Int) == 0 then !ksSame N N else false then true else bif (0 : Int) != 0 then !ksSame N ⟨0, 0, 0, []⟩ else false) = true := hc
             rw [hNN] at hc9
             exact absurd hc9 Bool.false_ne_true)
      · refine tri_conv (s' := rtF K N) (fun a w hg => (hg.reset (kT := [7, 8, 9]) (kO := [2004, 3013]) (by rfl) (by simp)).same ?_ ?_) ?_
        · exact .cons rfl (.cons rfl (.cons rfl .nil))
        · exact .cons (.box rfl) (.cons (.box rfl) .nil)
        refine tri_skip ?_
        change Tri _ _ _ _ _
        have haN : i64P N.a ∧ i64P N.b ∧ i64P N.c := ⟨hq.rN.a, hq.rN.b, hq.rN.c⟩
        have hnl := hq.nl
        have hkl := hq.kl
        have hvN := ksValid_len hq.vN
        have hwN : IntKind.i64.wrap (N.a + 1) = N.a + 1 := by rw [IntKind.wrap_i64]; omega
        refine tri_reg M hI hn (outs := ?_) (s' := ?_) ?_ ?_ ?_ ?_
        rotate_left 2
        · rfl
        · kernel_rfl
        · simp
        refine tri_conv (s' := rtG0 N (rtT N K.l)) (fun a w hg => (hg.reset (kT := [7, 9, 14]) (kO := [3013, 13006]) (by rfl) (by simp)).same ?_ ?_) ?_
        · exact .cons rfl (.cons rfl (.cons rfl .nil))
        · refine .cons (.box rfl) (.cons (.box ?_) .nil)
          rw [hwN]
          rfl
        have hrT : R4Ok (rtT N K.l) := ⟨by unfold rtT i64P; dsimp only; omega, by unfold rtT i64P; dsimp only; omega, by unfold rtT i64P; dsimp only; omega, hq.rK.l⟩
        have hTl : (rtT N K.l).l.length = 3 := hkl
        generalize rtT N K.l = T at *
        have haT : i64P T.a ∧ i64P T.b ∧ i64P T.c := ⟨hrT.a, hrT.b, hrT.c⟩
        refine tri_reg M hI hn (outs := ?_) (s' := ?_) ?_ ?_ ?_ ?_
        rotate_left 2
        · rfl
        · kernel_rfl
        · simp
          exact ⟨haT, by omega⟩
        refine tri_conv (s' := rtG N T (sgnsS 1 0 1 0 (r4Dig 13 T))) (fun a w hg => (hg.resetF (kF := [14002]) (kT := [7, 9, 14, 15]) (kO := [3013, 13006]) (.inr hS) (by rfl) ?_).same ?_ ?_) ?_
        · simp only [All, and_true, List.append_nil, List.nil_append]
          exact fun i _ => rfl
        · refine .cons rfl (.cons rfl (.cons rfl (.cons ?_ .nil)))
          simp only [Nat.zero_add, rowD_digF]
          rfl
        · exact .cons (.box rfl) (.cons (.box rfl) .nil)
        have hfO := sgns_few (n := 1) (h := 0) (ix := 0) (mask := 1) (m := r4Dig 13 T) (by omega) (by omega) (by omega)
        rw [show (((0 : Nat) : Int)) = 0 from rfl] at hfO
        have hOl : (sgnsS 1 0 1 0 (r4Dig 13 T)).length = 1 := rfl
        have hOm : ((sgnsS 1 0 1 0 (r4Dig 13 T)).getD 0 default).maker = 0 := rfl
        generalize sgnsS 1 0 1 0 (r4Dig 13 T) = O at *
        refine tri_reg M hI hn (outs := ?_) (s' := ?_) ?_ ?_ ?_ ?_
        rotate_left 2
        · rfl
        · kernel_rfl
        · simp
          exact ⟨haN, haT, hfO⟩
        refine tri_conv (s' := rtH N T O (rotS N T O).2) (fun a w hg => (hg.reset (kT := [7, 9, 14, 15, 17]) (kO := [3013, 13006]) (by rfl) (by simp)).same ?_ ?_) ?_
        · refine .cons rfl (.cons rfl (.cons rfl (.cons rfl (.cons ?_ .nil))))
          rw [rowD_digF, rowD_digF, rowSgd_sgdF]
          try rfl
        · exact .cons (.box rfl) (.cons (.box rfl) .nil)
        have hp0 := hfO.2 _ (getD_mem (show 0 < O.length by omega) default)
        have hnc := hq.nc
        refine tri_reg M hI hn (outs := ?_) (s' := ?_) ?_ ?_ ?_ ?_
        rotate_left 2
        · rfl
        · kernel_rfl
        · simp
          simp only [List.getD_eq_getElem?_getD] at hp0
          exact ⟨fun _ => by omega, fun _ => ⟨haT, by omega⟩, fun _ => by omega, fun _ => hp0⟩
        refine tri_reg M hI hn (outs := ?_) (s' := ?_) ?_ ?_ ?_ ?_
        rotate_left 2
        · rfl
        · kernel_rfl
        · simp
        refine tri_ret (fun a w hg => ⟨.inr rfl, _, ?_, hg⟩)
        refine retTo_cold (out := ?_) ?_ ?_ ?_ ?_ ?_
        rotate_left 1
        · rfl
        · simp
        · rfl
        · rfl
        change pvB _ = pvB true
        rw [rowD_digF, rowD_digF, rowD_digF]
        refine congrArg pvB ?_
        by_cases h0 : (rotS N T O).2 = 0
        · have hs := check_zero6 (rot_zero h0) 0 (by omega)
          have hs2 : verS (N.l.getD 0 []) 0 (r4Dig 13 T) ⟨(O.getD 0 default).sig.index, (O.getD 0 default).sig.chain, (O.getD 0 default).sig.path⟩ = true := by
            unfold sgStep at hs
            rw [hOm, hnc] at hs
            exact hs
          have hs3 : verS (N.l.getD (Int.toNat 0) []) 0 (r4Dig 13 ⟨T.a, T.b, T.c, T.l⟩) ⟨(O.getD (Int.toNat 0) default).sig.index, (O.getD (Int.toNat 0) default).sig.chain, (O.getD (Int.toNat 0) default).sig.path⟩ = true := hs2
          rw [h0, hOl, hs3]
          rfl
        · have hne : ((rotS N T O).2 != 0) = true := by simpa using h0
          rw [hne]
          rfl

end Go.Proofs.YtgndblhpfjkfhaaDoor.Pv
