/-
  Several texts in one file: each has its own heading below.
-/
import Derived.Test.YtihghljfmlbfhaaDoorTqO
import Derived.Test.YtihghljfmlbfhaaDoorTqL


namespace Go.Proofs.YtihghljfmlbfhaaDoor.Pv
open Go.RowKit
def sanG : List PV → Option (Prop × PV)
  | [] => some (True, pvB true)
  | _ => none
theorem sanity_spec : SpecOk Tryd.prog ShaMem 4 (funSpec true sanG) := by
  refine funSpec_ok (call_enters Tryd.func4 (by kernel_rfl) rfl) (fun xs p r hg hp => ?_)
  unfold sanG at hg
  split at hg
  · cases hg; exact sanity_fun
  · cases hg
def koL : List (Nat × Spec) := [(4, funSpec true sanG), (5, frzSpec new9G), (6, funSpec true rootG), (7, funSpec false runG), (8, funSpec true verG)]
theorem ko_ok : ∀ p ∈ koL, SpecOk Tryd.prog ShaMem p.1 p.2 := by
  intro p hp
  simp only [koL, List.mem_cons, List.not_mem_nil, or_false] at hp
  rcases hp with rfl | rfl | rfl | rfl | rfl
  · exact sanity_spec
  · exact new9_spec
  · exact troot_spec
  · exact run_spec
  · exact tver_spec
theorem koM : Mach Tryd.prog ShaMem (find koL) := ⟨specs_of ko_ok, mixed_⟩
theorem bk0_snd : Snd (c2 ksH0) := by
  refine ⟨?_, rfl, ?_⟩
  · intro j
    show 0 ≤ bk0.getD j 0 ∧ bk0.getD j 0 ≤ 3
    unfold bk0
    rw [List.getD_eq_getElem?_getD, List.getElem?_replicate]
    split <;> decide
  · decide +kernel
def koSt (seed cuts : List UInt8) (nz : Int) (rep : Bool) (k : Nat) (h : HwS) (last : Int) (i : Nat) : St :=
  ⟨[(2, none, pv1 (.sl 1 cuts.length (byF cuts))), (3, none, .w (.one (.lit (.int .u32 nz)))), (4, none, pvB rep), (5, none, pv1 (.pt 0 0 0)), (11, none, pvB true), (12, none, pvI k), (13, none, pv1 (.pt 5006 0 0)), (14, none, pvI 0), (15, none, pv1 (.pt 6002 0 0)), (16, none, pv1 (.pt 7006 0 0)), (17, none, pvI 0), (18, none, pvI last), (19, none, pvI i)],
  [(0, none, 0, .box 23 [.bs 16 seed]), (5006, none, 0, .box 34 (hwL h)), (6002, none, 0, .box 32 (flPC ksH0.f)), (7006, none, 0, .box 23 [.bs 16 (rootT seed k).1])]⟩
theorem cut_n : ∀ n : _root_.Fin 256, (IntKind.i64.wrap (n.val : Int)).tmod 40 = ((n.val % 40 : Nat) : Int) := by decide +kernel
def koK (seed cuts : List UInt8) (nz : Int) (rep : Bool) (k : Nat) (h : HwS) (last : Int) (i : Nat) (F : List Flt) : St :=
  ⟨(koSt seed cuts nz rep k h last i).t ++ [(21, none, pv1 (.sl 3 40 (fltF F)))], (koSt seed cuts nz rep k h last i).o⟩
def koMs (seed cuts : List UInt8) (nz : Int) (rep : Bool) (k : Nat) (h : HwS) (last : Int) (i : Nat) (F : List Flt) (msg : List UInt8) : St :=
  ⟨(koSt seed cuts nz rep k h last i).t ++ [(21, none, pv1 (.sl 3 40 (fltF F))), (23, none, pv1 (.pt 21003 0 0))], (koSt seed cuts nz rep k h last i).o ++ [(21003, none, 0, .box 23 [.bs 16 msg])]⟩
def koR (seed cuts : List UInt8) (nz : Int) (rep : Bool) (k : Nat) (h : HwS) (last : Int) (i : Nat) (msg : List UInt8) (q : Option (Nat × Int) × HwS × Nat) : St :=
  ⟨(koSt seed cuts nz rep k h last i).t ++ [(23, none, pv1 (.pt 21003 0 0)), (24, none, pv1 (.pt 22011 0 0)), (25, none, pv1 (.pt 22012 0 0)), (27, none, pvB q.1.isSome)], (koSt seed cuts nz rep k h last i).o ++ [(21003, none, 0, .box 23 [.bs 16 msg]), (22011, none, 0, .box 34 (hwL q.2.1)), (22012, none, 0, .box 47 (outPC seed msg k q.1))]⟩
def koT (seed cuts : List UInt8) (nz : Int) (rep : Bool) (k : Nat) (h : HwS) (last : Int) (i : Nat) (msg : List UInt8) (o : Option (Nat × Int)) : St :=
  ⟨(koSt seed cuts nz rep k h last i).t ++ [(23, none, pv1 (.pt 21003 0 0)), (25, none, pv1 (.pt 22012 0 0)), (27, none, pvB o.isSome)], (koSt seed cuts nz rep k h last i).o ++ [(21003, none, 0, .box 23 [.bs 16 msg]), (22012, none, 0, .box 47 (outPC seed msg k o))]⟩
theorem fltF_set {F : List Flt} {n : Nat} {t : Flt} (hF : F.length = 40) (hn : n < 40) (i : Nat) : (if i = n then fltPC t else fltF F i) = fltF (F.set n t) i := by
  unfold fltF
  by_cases h : i = n
  · subst h
    rw [if_pos rfl, List.getD_eq_getElem?_getD, List.getElem?_set_self (by omega)]
    rfl
  · rw [if_neg h, List.getD_eq_getElem?_getD, List.getD_eq_getElem?_getD, List.getElem?_set_ne (fun e => h e.symm)]
theorem u8_wrap (i : Nat) (hi : i ≤ 8) : 0 ≤ IntKind.u8.wrap (i : Int) ∧ IntKind.u8.wrap (i : Int) < 256 := by
  have h : i = 0 ∨ i = 1 ∨ i = 2 ∨ i = 3 ∨ i = 4 ∨ i = 5 ∨ i = 6 ∨ i = 7 ∨ i = 8 := by omega
  rcases h with rfl | rfl | rfl | rfl | rfl | rfl | rfl | rfl | rfl <;> decide
def nzN (nz : Int) : Int := IntKind.u32.wrap (IntKind.u32.wrap (nz.tdiv 2) + IntKind.u32.wrap (nz.tmod 2 * 2147483648))
def koI (seed cuts : List UInt8) (nz : Int) (rep : Bool) (k : Nat) (h : HwS) (last : Int) (i n j : Nat) (F : List Flt) : St :=
  ⟨(koSt seed cuts nz rep k h last i).t ++ [(20, none, pvI n), (21, none, pv1 (.ow 17006 0 3 0 j)), (22, none, pvI j)], (koSt seed cuts nz rep k h last i).o ++ [(17006, none, 0, .arr 42 3 j (fltF F))]⟩
set_option maxRecDepth 100000 in
set_option maxHeartbeats 1000000 in
theorem keys_fun (seed : List UInt8) (ht : Int) (cuts : List UInt8) (nz : Int) (rep : Bool) (_ : seed.length = 16) (h1 : 0 ≤ ht ∧ ht < 256) (_ : 0 ≤ nz ∧ nz < 4294967296) : FunOk Tryd.prog ShaMem 3 true [.w (.agg [.bs 16 seed]), .w (.one (.lit (.int .u8 ht))), pv1 (.sl 1 cuts.length (byF cuts)), .w (.one (.lit (.int .u32 nz))), pvB rep] (pvB true) := by
  have M := koM
  have hbf : Tryd.prog.types[42].bytes = 24 := by kernel_rfl
  refine funOk_of Tryd.func3 rfl rfl sha_ext (fun A hS hn hI => ?_)
  refine tri_reg M hI hn (outs := ?_) (s' := ?_) ?_ ?_ ?_ ?_
  rotate_left 2
  · rfl
  · kernel_rfl
  · simp
  refine tri_reg M hI hn (outs := ?_) (s' := ?_) ?_ ?_ ?_ ?_
  rotate_left 2
  · rfl
  · kernel_rfl
  · simp
  refine tri_seq ?_
  refine tri_reg M hI hn (outs := ?_) (s' := ?_) ?_ ?_ ?_ ?_
  rotate_left 2
  · rfl
  · kernel_rfl
  · simp
  refine tri_cond (b := ?_) ?_ (fun hc => ?_) (fun hc => ?_)
  rotate_left 1
  · rfl
  · refine tri_reg M hI hn (outs := ?_) (s' := ?_) ?_ ?_ ?_ ?_
    rotate_left 2
    · rfl
    · kernel_rfl
    · simp
    refine tri_ret (fun a w hg => ⟨.inr rfl, _, ?_, hg⟩)
    refine retTo_cold (out := ?_) ?_ ?_ ?_ ?_ ?_
    rotate_left 1
    · rfl
    · simp
    · rfl
    · rfl
    rfl
  · refine tri_skip ?_
    change Tri _ _ _ _ _
    refine tri_reg M hI hn (outs := ?_) (s' := ?_) ?_ ?_ ?_ ?_
    rotate_left 2
    · rfl
    · kernel_rfl
    · simp
    refine tri_reg M hI hn (outs := ?_) (s' := ?_) ?_ ?_ ?_ ?_
    rotate_left 2
    · rfl
    · kernel_rfl
    · simp
      refine ⟨fun i hi => ?_, fun i hi => ?_⟩
      · have : i = 0 ∨ i = 1 ∨ i = 2 ∨ i = 3 := by omega
        rcases this with rfl | rfl | rfl | rfl <;> exact all_cold rfl
      · have : i = 0 ∨ i = 1 ∨ i = 2 ∨ i = 3 := by omega
        rcases this with rfl | rfl | rfl | rfl <;> rfl
    refine tri_reg M hI hn (outs := ?_) (s' := ?_) ?_ ?_ ?_ ?_
    rotate_left 2
    · rfl
    · kernel_rfl
    · simp
    refine tri_reg M hI hn (outs := ?_) (s' := ?_) ?_ ?_ ?_ ?_
    rotate_left 2
    · rfl
    · kernel_rfl
    · simp
    refine tri_reg M hI hn (outs := ?_) (s' := ?_) ?_ ?_ ?_ ?_
    rotate_left 2
    · rfl
    · kernel_rfl
    · simp
    refine tri_seq ?_
    refine tri_reg M hI hn (outs := ?_) (s' := ?_) ?_ ?_ ?_ ?_
    rotate_left 2
    · rfl
    · kernel_rfl
    · simp
    obtain ⟨k, hk, ek⟩ : ∃ k : Nat, k ≤ 2 ∧ IntKind.i64.wrap (ht.tmod 3) = (k : Int) := by
      obtain ⟨n, rfl⟩ := Int.eq_ofNat_of_zero_le h1.1
      refine ⟨n % 3, by omega, ?_⟩
      have : (n : Int).tmod 3 = ((n % 3 : Nat) : Int) := by rw [Int.tmod_eq_emod_of_nonneg (by omega)]; rfl
      rw [this]
      have h3 : n % 3 = 0 ∨ n % 3 = 1 ∨ n % 3 = 2 := by omega
      rcases h3 with h3 | h3 | h3 <;> rw [h3] <;> rfl
    have hrt : rootT seed (k : Int) = (rootS (leavesS seed (2 ^ k)), 0) := by
      unfold rootT
      rw [if_pos ⟨by omega, by omega⟩, Int.toNat_natCast]
    refine tri_conv (s' := koSt seed cuts nz rep k ksH0 (-1) 0) (fun a w hg => (hg.reset (kT := [2, 3, 4, 5, 11, 12, 13, 14, 15, 16, 17, 18, 19]) (kO := [0, 5006, 6002, 7006]) (by rfl) (by simp)).same ?_ ?_) ?_
    · exact .cons rfl (.cons rfl (.cons rfl (.cons rfl (.cons rfl (.cons (by rw [← ek]) (.cons rfl (.cons rfl (.cons rfl (.cons rfl (.cons (by show pvI (rootT seed (IntKind.i64.wrap (ht.tmod 3))).2 = _; rw [ek, hrt]) (.cons rfl (.cons rfl .nil))))))))))))
    · exact .cons (.box rfl) (.cons (.box rfl) (.cons (.box rfl) (.cons (.box (by show [PC.bs 16 (rootT seed (IntKind.i64.wrap (ht.tmod 3))).1] = _; rw [ek])) .nil)))
    have hlen : cuts.length ≤ 8 := by
      have hc' : decide ((cuts.length : Int) > 8) = false := hc
      have := of_decide_eq_false hc'
      omega
    refine tri_block ?_
    refine tri_loop cuts.length (fun i t => ∃ h last nz, t = koSt seed cuts nz rep k h last i ∧ Dim h ∧ Snd (c2 h) ∧ -1 ≤ last ∧ last < (levelUp (c2 h) false 16 0 : Int)) 0 ⟨ksH0, -1, nz, rfl, ksD0, bk0_snd, by omega, by omega⟩ (by omega) (fun i t hJ hi => ?_)
    obtain ⟨h, last, nz, rfl, hd, hsn, hl1, hl2⟩ := hJ
    refine tri_seq ?_
    refine tri_reg M hI hn (outs := ?_) (s' := ?_) ?_ ?_ ?_ ?_
    rotate_left 2
    · rfl
    · kernel_rfl
    · simp
    refine tri_cond (b := ?_) ?_ (fun hc => ?_) (fun hc => ?_)
    rotate_left 1
    · rfl
    · have hi2 : i < cuts.length := by
        have hc' : decide ((i : Int) < (cuts.length : Int)) = true := hc
        have := of_decide_eq_true hc'
        omega
      refine tri_skip ?_
      change Tri _ _ _ _ _
      refine tri_seq ?_
      refine tri_block ?_
      refine tri_reg M hI hn (outs := ?_) (s' := ?_) ?_ ?_ ?_ ?_
      rotate_left 2
      · rfl
      · kernel_rfl
      · simp
        exact hi2
      refine tri_reg M hI hn (outs := ?_) (s' := ?_) ?_ ?_ ?_ ?_
      rotate_left 2
      · rfl
      · kernel_rfl
      · simp
      refine tri_seq ?_
      refine tri_reg M hI hn (outs := ?_) (s' := ?_) ?_ ?_ ?_ ?_
      rotate_left 2
      · rfl
      · kernel_rfl
      · simp
      have hcn : (IntKind.i64.wrap ((cuts.getD i 0).toNat : Int)).tmod 40 = (((cuts.getD i 0).toNat % 40 : Nat) : Int) := cut_n ⟨(cuts.getD i 0).toNat, (cuts.getD i 0).toNat_lt⟩
      obtain ⟨n, hn40, en⟩ : ∃ n : Nat, n < 40 ∧ (cuts.getD i 0).toNat % 40 = n := ⟨_, Nat.mod_lt _ (by omega), rfl⟩
      rw [en] at hcn
      refine tri_conv (s' := koI seed cuts nz rep k h last i n 0 []) (fun a w hg => ((hg.nilRow (x := 17006) (t := 21) (e := 42) (n := 3) (by rfl) (by rfl)).reset (kT := [2, 3, 4, 5, 11, 12, 13, 14, 15, 16, 17, 18, 19, 20, 21, 22]) (kO := [0, 5006, 6002, 7006, 17006]) (by rfl) (by simp)).same ?_ ?_) ?_
      · refine .cons rfl (.cons rfl (.cons rfl (.cons rfl (.cons rfl (.cons rfl (.cons rfl (.cons rfl (.cons rfl (.cons rfl (.cons rfl (.cons rfl (.cons rfl (.cons ?_ (.cons rfl (.cons rfl .nil)))))))))))))))
        show pvI ((IntKind.i64.wrap ((cuts.getD (i : Int).toNat 0).toNat : Int)).tmod 40) = pvI n
        rw [Int.toNat_natCast, hcn]
      · exact .cons (.box rfl) (.cons (.box rfl) (.cons (.box rfl) (.cons (.box rfl) (.cons (.arr rfl (fun i hi => absurd hi (by simp))) .nil))))
      refine tri_block ?_
      refine tri_loop 40 (fun j t => ∃ F nz, F.length = j ∧ t = koI seed cuts nz rep k h last i n j F) 0 ⟨[], nz, rfl, rfl⟩ (by omega) (fun j t hJ hj => ?_)
      obtain ⟨F, nz, hFj, rfl⟩ := hJ
      refine tri_seq ?_
      refine tri_reg M hI hn (outs := ?_) (s' := ?_) ?_ ?_ ?_ ?_
      rotate_left 2
      · rfl
      · kernel_rfl
      · simp
      refine tri_cond (b := ?_) ?_ (fun hc => ?_) (fun hc => ?_)
      rotate_left 1
      · rfl
      · have hj2 : j < 40 := by
          have hc' : decide ((j : Int) < 40) = true := hc
          have := of_decide_eq_true hc'
          omega
        refine tri_skip ?_
        change Tri _ _ _ _ _
        refine tri_seq ?_
        refine tri_block ?_
        refine tri_reg M hI hn (outs := ?_) (s' := ?_) ?_ ?_ ?_ ?_
        rotate_left 2
        · rfl
        · kernel_rfl
        · simp
          rw [hbf]
          omega
        refine tri_region M hI hn (outs := ?_) (s' := ?_) ?_ ?_ ?_ ?_
        rotate_left 2
        · rfl
        · kernel_rfl
        · simp
        change Tri _ _ _ _ _
        refine tri_region M hI hn (outs := ?_) (s' := ?_) ?_ ?_ ?_ ?_
        rotate_left 2
        · rfl
        · kernel_rfl
        · simp
        intro a w hg
        refine ⟨j + 1, _, by omega, by omega, ⟨F ++ [⟨false, 0, nz.tmod 2 == 1⟩], nzN nz, by rw [List.length_append, List.length_singleton, hFj], rfl⟩, (hg.reset (kT := [2, 3, 4, 5, 11, 12, 13, 14, 15, 16, 17, 18, 19, 20, 21, 22]) (kO := [0, 5006, 6002, 7006, 17006]) (by rfl) ?_).same ?_ ?_⟩
        · simp
          exact appF_cold (fun j _ => all_cold (show (fltF F j).all (coldPC false) = true from rfl)) (all_cold rfl)
        · exact .cons rfl (.cons rfl (.cons rfl (.cons rfl (.cons rfl (.cons rfl (.cons rfl (.cons rfl (.cons rfl (.cons rfl (.cons rfl (.cons rfl (.cons rfl (.cons rfl (.cons rfl (.cons (by rw [wrap_nat j (by omega)]) .nil)))))))))))))))
        · refine .cons (.box rfl) (.cons (.box rfl) (.cons (.box rfl) (.cons (.box rfl) (.cons (.arr rfl (appF_ext (fun i hi => ?_) ?_)) .nil))))
          · unfold fltF
            rw [List.getD_eq_getElem?_getD, List.getD_eq_getElem?_getD, List.getElem?_append_left (by omega)]
          · unfold fltF
            rw [List.getD_eq_getElem?_getD, List.getElem?_append_right (by omega), hFj, Nat.sub_self]
            rfl
      · have hj2 : j = 40 := by
          have hc' : decide ((j : Int) < 40) = false := hc
          have := of_decide_eq_false hc'
          omega
        subst hj2
        refine tri_exit ?_
        change Tri _ _ _ _ _
        refine tri_seq ?_
        refine tri_reg M hI hn (outs := ?_) (s' := ?_) ?_ ?_ ?_ ?_
        rotate_left 2
        · rfl
        · kernel_rfl
        · simp
          exact hi2
        refine tri_cond (b := ?_) ?_ (fun hc => ?_) (fun hc => ?_)
        rotate_left 1
        · rfl
        · refine tri_region M hI hn (outs := ?_) (s' := ?_) ?_ ?_ ?_ ?_
          rotate_left 2
          · rfl
          · kernel_rfl
          · simp
            exact ⟨by omega, hn40⟩
          change Tri _ _ _ _ _
          refine tri_conv (s' := koK seed cuts nz rep k h last i (F.set n ⟨true, (F.getD n flt0).bytes, (F.getD n flt0).noise⟩)) (fun a w hg => (hg.resetF (kF := [17006]) (kT := [2, 3, 4, 5, 11, 12, 13, 14, 15, 16, 17, 18, 19, 21]) (kO := [0, 5006, 6002, 7006]) (.inr hS) (by rfl) ?_).same ?_ ?_) ?_
          · simp
            intro i' _ x hx
            split at hx
            · exact all_cold (l := [PC.lit (.bool true), PC.lit (.int .i64 (F.getD n flt0).bytes), PC.lit (.bool (F.getD n flt0).noise)]) rfl x (by simpa [PW.cells] using hx)
            · exact all_cold (show (fltF F i').all (coldPC false) = true from rfl) x hx
          · refine .cons rfl (.cons rfl (.cons rfl (.cons rfl (.cons rfl (.cons rfl (.cons rfl (.cons rfl (.cons rfl (.cons rfl (.cons rfl (.cons rfl (.cons rfl (.cons ?_ .nil)))))))))))))
            refine congrArg (fun f => pv1 (.sl 3 40 f)) (funext fun i' => ?_)
            rw [Nat.zero_add, Nat.zero_add, Int.toNat_natCast]
            exact fltF_set (t := ⟨true, (F.getD n flt0).bytes, (F.getD n flt0).noise⟩) hFj hn40 i'
          · exact .cons (.box rfl) (.cons (.box rfl) (.cons (.box rfl) (.cons (.box rfl) .nil)))
          have hF2 : (F.set n ⟨true, (F.getD n flt0).bytes, (F.getD n flt0).noise⟩).length = 40 := by rw [List.length_set]; exact hFj
          generalize F.set n ⟨true, (F.getD n flt0).bytes, (F.getD n flt0).noise⟩ = F2 at hF2 ⊢
          refine tri_reg M hI hn (outs := ?_) (s' := ?_) ?_ ?_ ?_ ?_
          rotate_left 2
          · rfl
          · kernel_rfl
          · simp
            exact u8_wrap i (by omega)
          obtain ⟨msg, hmsg⟩ : ∃ msg : List UInt8, msg = ([0, 0, 0, 0, 0, 0, 0, 0, 0, 0, 0, 0, 0, 0, 0, 0].set 0 9).set 1 (UInt8.ofNat (IntKind.u8.wrap (i : Int)).toNat) := ⟨_, rfl⟩
          refine tri_conv (s' := koMs seed cuts nz rep k h last i F2 msg) (fun a w hg => (hg.reset (kT := [2, 3, 4, 5, 11, 12, 13, 14, 15, 16, 17, 18, 19, 21, 23]) (kO := [0, 5006, 6002, 7006, 21003]) (by rfl) (by simp)).same ?_ ?_) ?_
          · exact .cons rfl (.cons rfl (.cons rfl (.cons rfl (.cons rfl (.cons rfl (.cons rfl (.cons rfl (.cons rfl (.cons rfl (.cons rfl (.cons rfl (.cons rfl (.cons rfl (.cons rfl .nil))))))))))))))
          · exact .cons (.box rfl) (.cons (.box rfl) (.cons (.box rfl) (.cons (.box rfl) (.cons (.box (by rw [hmsg]; rfl)) .nil))))
          refine tri_reg M hI hn (outs := ?_) (s' := ?_) ?_ ?_ ?_ ?_
          rotate_left 2
          · rfl
          · kernel_rfl
          · simp
            exact ⟨fun _ _ => rfl, hd, by simp [rowFlt]⟩
          have hr := round_live seed msg k (by omega) (rowFlt 40 (fltF F2)) h hd hsn
          refine tri_conv (s' := koR seed cuts nz rep k h last i msg (execL (rowFlt 40 (fltF F2)) (Prg.signI k) h 0)) (fun a w hg => (hg.reset (kT := [2, 3, 4, 5, 11, 12, 13, 14, 15, 16, 17, 18, 19, 23, 24, 25, 27]) (kO := [0, 5006, 6002, 7006, 21003, 22011, 22012]) (by rfl) (by simp)).same ?_ ?_) ?_
          · refine .cons rfl (.cons rfl (.cons rfl (.cons rfl (.cons rfl (.cons rfl (.cons rfl (.cons rfl (.cons rfl (.cons rfl (.cons rfl (.cons rfl (.cons rfl (.cons rfl (.cons rfl (.cons rfl (.cons ?_ .nil))))))))))))))))
            show pvB (execL (rowFlt 40 (fltF F2)) (Prg.signI k) ⟨rowBk h.b.length (bankF h.b), fsRow h.f.length (fsF h.f), h.r⟩ 0).1.isSome = _
            rw [hw_eta]
          · refine .cons (.box rfl) (.cons (.box rfl) (.cons (.box rfl) (.cons (.box rfl) (.cons (.box rfl) (.cons (.box ?_) (.cons (.box ?_) .nil))))))
            · show hwL (execL (rowFlt 40 (fltF F2)) (Prg.signI k) ⟨rowBk h.b.length (bankF h.b), fsRow h.f.length (fsF h.f), h.r⟩ 0).2.1 = _
              rw [hw_eta]
            · show outPC seed msg k (execL (rowFlt 40 (fltF F2)) (Prg.signI k) ⟨rowBk h.b.length (bankF h.b), fsRow h.f.length (fsF h.f), h.r⟩ 0).1 = _
              rw [hw_eta]
          generalize execL (rowFlt 40 (fltF F2)) (Prg.signI k) h 0 = q at hr ⊢
          refine tri_reg M hI hn (outs := ?_) (s' := ?_) ?_ ?_ ?_ ?_
          rotate_left 2
          · rfl
          · kernel_rfl
          · simp
          refine tri_seq ?_
          refine tri_reg M hI hn (outs := ?_) (s' := ?_) ?_ ?_ ?_ ?_
          rotate_left 2
          · rfl
          · kernel_rfl
          · simp
          refine tri_cond (b := ?_) ?_ (fun hc => ?_) (fun hc => ?_)
          rotate_left 1
          · rfl
          · refine tri_region M hI hn (outs := ?_) (s' := ?_) ?_ ?_ ?_ ?_
            rotate_left 2
            · rfl
            · kernel_rfl
            · simp
            change Tri _ _ _ _ _
            refine tri_conv (s' := koT seed cuts nz rep k ⟨q.2.1.b, ksH0.f, q.2.1.r⟩ last i msg q.1) (fun a w hg => (hg.reset (kT := [2, 3, 4, 5, 11, 12, 13, 14, 15, 16, 17, 18, 19, 23, 25, 27]) (kO := [0, 5006, 6002, 7006, 21003, 22012]) (by rfl) (by simp)).same ?_ ?_) ?_
            · exact .cons rfl (.cons rfl (.cons rfl (.cons rfl (.cons rfl (.cons rfl (.cons rfl (.cons rfl (.cons rfl (.cons rfl (.cons rfl (.cons rfl (.cons rfl (.cons rfl (.cons rfl (.cons rfl .nil)))))))))))))))
            · exact .cons (.box rfl) (.cons (.box rfl) (.cons (.box rfl) (.cons (.box rfl) (.cons (.box rfl) (.cons (.box rfl) .nil)))))
            have hd' : Dim ⟨q.2.1.b, ksH0.f, q.2.1.r⟩ := ⟨⟨hr.dim.ok.nb, hr.dim.ok.nc, hr.dim.ok.val, ksD0.ok.nf, ksD0.ok.sz, hr.dim.ok.rt⟩, hr.dim.n, hr.dim.l⟩
            have hc' : c2 ⟨q.2.1.b, ksH0.f, q.2.1.r⟩ = c2 q.2.1 := rfl
            generalize (⟨q.2.1.b, ksH0.f, q.2.1.r⟩ : HwS) = h' at hd' hc' ⊢
            have hnew := hr.new
            have hmono := hr.mono
            have hsn' := hr.snd
            rw [← hc'] at hnew hmono hsn'
            generalize q.1 = o at hnew ⊢
            cases o with
            | none =>
              refine tri_seq ?_
              refine tri_reg M hI hn (outs := ?_) (s' := ?_) ?_ ?_ ?_ ?_
              rotate_left 2
              · rfl
              · kernel_rfl
              · simp
              refine tri_cond (b := ?_) ?_ (fun hc => ?_) (fun hc => ?_)
              rotate_left 1
              · rfl
              · refine tri_seq ?_
                refine tri_reg M hI hn (outs := ?_) (s' := ?_) ?_ ?_ ?_ ?_
                rotate_left 2
                · rfl
                · kernel_rfl
                · simp
                refine tri_cond (b := ?_) ?_ (fun hc => ?_) (fun hc => ?_)
                rotate_left 1
                · rfl
                · cases hc
                · refine tri_skip ?_
                  change Tri _ _ _ _ _
                  refine tri_exit ?_
                  change Tri _ _ _ _ _
                  refine tri_region M hI hn (outs := ?_) (s' := ?_) ?_ ?_ ?_ ?_
                  rotate_left 2
                  · rfl
                  · kernel_rfl
                  · simp
                  intro a w hg
                  refine ⟨i + 1, _, by omega, by omega, ⟨h', last, nz, rfl, hd', hsn', by omega, by omega⟩, (hg.reset (kT := [2, 3, 4, 5, 11, 12, 13, 14, 15, 16, 17, 18, 19]) (kO := [0, 5006, 6002, 7006]) (by rfl) (by simp)).same ?_ ?_⟩
                  · exact .cons rfl (.cons rfl (.cons rfl (.cons rfl (.cons rfl (.cons rfl (.cons rfl (.cons rfl (.cons rfl (.cons rfl (.cons rfl (.cons rfl (.cons (by rw [wrap_nat i (by omega)]) .nil))))))))))))
                  · exact .cons (.box rfl) (.cons (.box rfl) (.cons (.box rfl) (.cons (.box rfl) .nil)))
              · cases hc
            | some p =>
              rcases hnew p rfl with h17 | ⟨x, hx, hxk, hx1, hx2⟩
              · have e17 : (outS seed msg k (some p)).2 = 17 := h17
                refine tri_seq ?_
                refine tri_reg M hI hn (outs := ?_) (s' := ?_) ?_ ?_ ?_ ?_
                rotate_left 2
                · rfl
                · kernel_rfl
                · simp
                refine tri_cond (b := ?_) ?_ (fun hc => ?_) (fun hc => ?_)
                rotate_left 1
                · rfl
                · refine tri_seq ?_
                  refine tri_reg M hI hn (outs := ?_) (s' := ?_) ?_ ?_ ?_ ?_
                  rotate_left 2
                  · rfl
                  · kernel_rfl
                  · simp
                  refine tri_cond (b := ?_) ?_ (fun hc => ?_) (fun hc => ?_)
                  rotate_left 1
                  · rfl
                  · exfalso
                    have hc' : ((outS seed msg k (some p)).2 != 17) = true := hc
                    rw [e17] at hc'
                    cases hc'
                  · refine tri_skip ?_
                    change Tri _ _ _ _ _
                    refine tri_exit ?_
                    change Tri _ _ _ _ _
                    refine tri_region M hI hn (outs := ?_) (s' := ?_) ?_ ?_ ?_ ?_
                    rotate_left 2
                    · rfl
                    · kernel_rfl
                    · simp
                    intro a w hg
                    refine ⟨i + 1, _, by omega, by omega, ⟨h', last, nz, rfl, hd', hsn', by omega, by omega⟩, (hg.reset (kT := [2, 3, 4, 5, 11, 12, 13, 14, 15, 16, 17, 18, 19]) (kO := [0, 5006, 6002, 7006]) (by rfl) (by simp)).same ?_ ?_⟩
                    · exact .cons rfl (.cons rfl (.cons rfl (.cons rfl (.cons rfl (.cons rfl (.cons rfl (.cons rfl (.cons rfl (.cons rfl (.cons rfl (.cons rfl (.cons (by rw [wrap_nat i (by omega)]) .nil))))))))))))
                    · exact .cons (.box rfl) (.cons (.box rfl) (.cons (.box rfl) (.cons (.box rfl) .nil)))
                · exfalso
                  have hc' : ((outS seed msg k (some p)).2 != 0) = false := hc
                  rw [e17] at hc'
                  cases hc'
              · have ho : outPC seed msg k (some p) = oPC x (sgnT seed (k : Int) (x : Int) msg).1 0 := by
                  show sigPC (sgO seed (k : Int) msg p).1 ++ [.lit (.int .i64 (sgO seed (k : Int) msg p).2)] = _
                  rw [hx]
                  exact out_yes seed msg k x (by omega) hxk
                unfold koT
                rw [ho]
                refine tri_seq ?_
                refine tri_reg M hI hn (outs := ?_) (s' := ?_) ?_ ?_ ?_ ?_
                rotate_left 2
                · rfl
                · kernel_rfl
                · simp
                refine tri_cond (b := ?_) ?_ (fun hc => ?_) (fun hc => ?_)
                rotate_left 1
                · rfl
                · cases hc
                · refine tri_skip ?_
                  change Tri _ _ _ _ _
                  refine tri_seq ?_
                  have hver := ver_own8 seed msg k x (by omega) hxk
                  have hpl := (sgnT_small seed msg (k : Int) (x : Int)).2
                  have hix : (sgnT seed (k : Int) (x : Int) msg).1.index = (x : Int) := by rw [sgnT_yes seed msg k x (by omega) hxk]
                  generalize (sgnT seed (k : Int) (x : Int) msg).1 = Sg at hver hpl hix ⊢
                  refine tri_reg M hI hn (outs := ?_) (s' := ?_) ?_ ?_ ?_ ?_
                  rotate_left 2
                  · rfl
                  · kernel_rfl
                  · simp
                    exact fun _ => by omega
                  refine tri_cond (b := ?_) ?_ (fun hc => ?_) (fun hc => ?_)
                  rotate_left 1
                  · rfl
                  · exfalso
                    have hc' : (bif decide ((x : Int) ≤ last) then true else !verS (rootT seed (k : Int)).1 (k : Int) msg ⟨(x : Int), rowD Sg.chain.length (digF Sg.chain), rowD Sg.path.length (digF Sg.path)⟩) = true := hc
                    rw [rowD_digF, rowD_digF, show (⟨(x : Int), Sg.chain, Sg.path⟩ : Sig) = Sg by rw [← hix], hver, decide_eq_false (by omega)] at hc'
                    cases hc'
                  · refine tri_skip ?_
                    change Tri _ _ _ _ _
                    refine tri_region M hI hn (outs := ?_) (s' := ?_) ?_ ?_ ?_ ?_
                    rotate_left 2
                    · rfl
                    · kernel_rfl
                    · simp
                    change Tri _ _ _ _ _
                    refine tri_region M hI hn (outs := ?_) (s' := ?_) ?_ ?_ ?_ ?_
                    rotate_left 2
                    · rfl
                    · kernel_rfl
                    · simp
                    intro a w hg
                    refine ⟨i + 1, _, by omega, by omega, ⟨h', (x:Int), nz, rfl, hd', hsn', by omega, by omega⟩, (hg.reset (kT := [2, 3, 4, 5, 11, 12, 13, 14, 15, 16, 17, 18, 19]) (kO := [0, 5006, 6002, 7006]) (by rfl) (by simp)).same ?_ ?_⟩
                    · exact .cons rfl (.cons rfl (.cons rfl (.cons rfl (.cons rfl (.cons rfl (.cons rfl (.cons rfl (.cons rfl (.cons rfl (.cons rfl (.cons rfl (.cons (by rw [wrap_nat i (by omega)]) .nil))))))))))))
                    · exact .cons (.box rfl) (.cons (.box rfl) (.cons (.box rfl) (.cons (.box rfl) .nil)))
          · refine tri_skip ?_
            change Tri _ _ _ _ _
            refine tri_conv (s' := koT seed cuts nz rep k q.2.1 last i msg q.1) (fun a w hg => (hg.reset (kT := [2, 3, 4, 5, 11, 12, 13, 14, 15, 16, 17, 18, 19, 23, 25, 27]) (kO := [0, 5006, 6002, 7006, 21003, 22012]) (by rfl) (by simp)).same ?_ ?_) ?_
            · exact .cons rfl (.cons rfl (.cons rfl (.cons rfl (.cons rfl (.cons rfl (.cons rfl (.cons rfl (.cons rfl (.cons rfl (.cons rfl (.cons rfl (.cons rfl (.cons rfl (.cons rfl (.cons rfl .nil)))))))))))))))
            · exact .cons (.box rfl) (.cons (.box rfl) (.cons (.box rfl) (.cons (.box rfl) (.cons (.box rfl) (.cons (.box rfl) .nil)))))
            have hd' := hr.dim
            obtain ⟨h', hh'⟩ : ∃ h', h' = q.2.1 := ⟨_, rfl⟩
            rw [← hh'] at hd' ⊢
            have hc' : c2 h' = c2 q.2.1 := by rw [hh']
            clear hh'
            have hnew := hr.new
            have hmono := hr.mono
            have hsn' := hr.snd
            rw [← hc'] at hnew hmono hsn'
            generalize q.1 = o at hnew ⊢
            cases o with
            | none =>
              refine tri_seq ?_
              refine tri_reg M hI hn (outs := ?_) (s' := ?_) ?_ ?_ ?_ ?_
              rotate_left 2
              · rfl
              · kernel_rfl
              · simp
              refine tri_cond (b := ?_) ?_ (fun hc => ?_) (fun hc => ?_)
              rotate_left 1
              · rfl
              · refine tri_seq ?_
                refine tri_reg M hI hn (outs := ?_) (s' := ?_) ?_ ?_ ?_ ?_
                rotate_left 2
                · rfl
                · kernel_rfl
                · simp
                refine tri_cond (b := ?_) ?_ (fun hc => ?_) (fun hc => ?_)
                rotate_left 1
                · rfl
                · cases hc
                · refine tri_skip ?_
                  change Tri _ _ _ _ _
                  refine tri_exit ?_
                  change Tri _ _ _ _ _
                  refine tri_region M hI hn (outs := ?_) (s' := ?_) ?_ ?_ ?_ ?_
                  rotate_left 2
                  · rfl
                  · kernel_rfl
                  · simp
                  intro a w hg
                  refine ⟨i + 1, _, by omega, by omega, ⟨h', last, nz, rfl, hd', hsn', by omega, by omega⟩, (hg.reset (kT := [2, 3, 4, 5, 11, 12, 13, 14, 15, 16, 17, 18, 19]) (kO := [0, 5006, 6002, 7006]) (by rfl) (by simp)).same ?_ ?_⟩
                  · exact .cons rfl (.cons rfl (.cons rfl (.cons rfl (.cons rfl (.cons rfl (.cons rfl (.cons rfl (.cons rfl (.cons rfl (.cons rfl (.cons rfl (.cons (by rw [wrap_nat i (by omega)]) .nil))))))))))))
                  · exact .cons (.box rfl) (.cons (.box rfl) (.cons (.box rfl) (.cons (.box rfl) .nil)))
              · cases hc
            | some p =>
              rcases hnew p rfl with h17 | ⟨x, hx, hxk, hx1, hx2⟩
              · have e17 : (outS seed msg k (some p)).2 = 17 := h17
                refine tri_seq ?_
                refine tri_reg M hI hn (outs := ?_) (s' := ?_) ?_ ?_ ?_ ?_
                rotate_left 2
                · rfl
                · kernel_rfl
                · simp
                refine tri_cond (b := ?_) ?_ (fun hc => ?_) (fun hc => ?_)
                rotate_left 1
                · rfl
                · refine tri_seq ?_
                  refine tri_reg M hI hn (outs := ?_) (s' := ?_) ?_ ?_ ?_ ?_
                  rotate_left 2
                  · rfl
                  · kernel_rfl
                  · simp
                  refine tri_cond (b := ?_) ?_ (fun hc => ?_) (fun hc => ?_)
                  rotate_left 1
                  · rfl
                  · exfalso
                    have hc' : ((outS seed msg k (some p)).2 != 17) = true := hc
                    rw [e17] at hc'
                    cases hc'
                  · refine tri_skip ?_
                    change Tri _ _ _ _ _
                    refine tri_exit ?_
                    change Tri _ _ _ _ _
                    refine tri_region M hI hn (outs := ?_) (s' := ?_) ?_ ?_ ?_ ?_
                    rotate_left 2
                    · rfl
                    · kernel_rfl
                    · simp
                    intro a w hg
                    refine ⟨i + 1, _, by omega, by omega, ⟨h', last, nz, rfl, hd', hsn', by omega, by omega⟩, (hg.reset (kT := [2, 3, 4, 5, 11, 12, 13, 14, 15, 16, 17, 18, 19]) (kO := [0, 5006, 6002, 7006]) (by rfl) (by simp)).same ?_ ?_⟩
                    · exact .cons rfl (.cons rfl (.cons rfl (.cons rfl (.cons rfl (.cons rfl (.cons rfl (.cons rfl (.cons rfl (.cons rfl (.cons rfl (.cons rfl (.cons (by rw [wrap_nat i (by omega)]) .nil))))))))))))
                    · exact .cons (.box rfl) (.cons (.box rfl) (.cons (.box rfl) (.cons (.box rfl) .nil)))
                · exfalso
                  have hc' : ((outS seed msg k (some p)).2 != 0) = false := hc
                  rw [e17] at hc'
                  cases hc'
              · have ho : outPC seed msg k (some p) = oPC x (sgnT seed (k : Int) (x : Int) msg).1 0 := by
                  show sigPC (sgO seed (k : Int) msg p).1 ++ [.lit (.int .i64 (sgO seed (k : Int) msg p).2)] = _
                  rw [hx]
                  exact out_yes seed msg k x (by omega) hxk
                unfold koT
                rw [ho]
                refine tri_seq ?_
                refine tri_reg M hI hn (outs := ?_) (s' := ?_) ?_ ?_ ?_ ?_
                rotate_left 2
                · rfl
                · kernel_rfl
                · simp
                refine tri_cond (b := ?_) ?_ (fun hc => ?_) (fun hc => ?_)
                rotate_left 1
                · rfl
                · cases hc
                · refine tri_skip ?_
                  change Tri _ _ _ _ _
                  refine tri_seq ?_
                  have hver := ver_own8 seed msg k x (by omega) hxk
                  have hpl := (sgnT_small seed msg (k : Int) (x : Int)).2
                  have hix : (sgnT seed (k : Int) (x : Int) msg).1.index = (x : Int) := by rw [sgnT_yes seed msg k x (by omega) hxk]
                  generalize (sgnT seed (k : Int) (x : Int) msg).1 = Sg at hver hpl hix ⊢
                  refine tri_reg M hI hn (outs := ?_) (s' := ?_) ?_ ?_ ?_ ?_
                  rotate_left 2
                  · rfl
                  · kernel_rfl
                  · simp
                    exact fun _ => by omega
                  refine tri_cond (b := ?_) ?_ (fun hc => ?_) (fun hc => ?_)
                  rotate_left 1
                  · rfl
                  · exfalso
                    have hc' : (bif decide ((x : Int) ≤ last) then true else !verS (rootT seed (k : Int)).1 (k : Int) msg ⟨(x : Int), rowD Sg.chain.length (digF Sg.chain), rowD Sg.path.length (digF Sg.path)⟩) = true := hc
                    rw [rowD_digF, rowD_digF, show (⟨(x : Int), Sg.chain, Sg.path⟩ : Sig) = Sg by rw [← hix], hver, decide_eq_false (by omega)] at hc'
                    cases hc'
                  · refine tri_skip ?_
                    change Tri _ _ _ _ _
                    refine tri_region M hI hn (outs := ?_) (s' := ?_) ?_ ?_ ?_ ?_
                    rotate_left 2
                    · rfl
                    · kernel_rfl
                    · simp
                    change Tri _ _ _ _ _
                    refine tri_region M hI hn (outs := ?_) (s' := ?_) ?_ ?_ ?_ ?_
                    rotate_left 2
                    · rfl
                    · kernel_rfl
                    · simp
                    intro a w hg
                    refine ⟨i + 1, _, by omega, by omega, ⟨h', (x:Int), nz, rfl, hd', hsn', by omega, by omega⟩, (hg.reset (kT := [2, 3, 4, 5, 11, 12, 13, 14, 15, 16, 17, 18, 19]) (kO := [0, 5006, 6002, 7006]) (by rfl) (by simp)).same ?_ ?_⟩
                    · exact .cons rfl (.cons rfl (.cons rfl (.cons rfl (.cons rfl (.cons rfl (.cons rfl (.cons rfl (.cons rfl (.cons rfl (.cons rfl (.cons rfl (.cons (by rw [wrap_nat i (by omega)]) .nil))))))))))))
                    · exact .cons (.box rfl) (.cons (.box rfl) (.cons (.box rfl) (.cons (.box rfl) .nil)))
        · refine tri_skip ?_
          change Tri _ _ _ _ _
          refine tri_conv (s' := koK seed cuts nz rep k h last i F) (fun a w hg => (hg.resetF (kF := [17006]) (kT := [2, 3, 4, 5, 11, 12, 13, 14, 15, 16, 17, 18, 19, 21]) (kO := [0, 5006, 6002, 7006]) (.inr hS) (by rfl) ?_).same ?_ ?_) ?_
          · simp
            exact fun i' _ => all_cold (show (fltF F i').all (coldPC false) = true from rfl)
          · refine .cons rfl (.cons rfl (.cons rfl (.cons rfl (.cons rfl (.cons rfl (.cons rfl (.cons rfl (.cons rfl (.cons rfl (.cons rfl (.cons rfl (.cons rfl (.cons ?_ .nil)))))))))))))
            exact congrArg (fun f => pv1 (.sl 3 40 f)) (funext fun i' => by rw [Nat.zero_add])
          · exact .cons (.box rfl) (.cons (.box rfl) (.cons (.box rfl) (.cons (.box rfl) .nil)))
          have hF2 := hFj
          generalize F = F2 at hF2 ⊢
          refine tri_reg M hI hn (outs := ?_) (s' := ?_) ?_ ?_ ?_ ?_
          rotate_left 2
          · rfl
          · kernel_rfl
          · simp
            exact u8_wrap i (by omega)
          obtain ⟨msg, hmsg⟩ : ∃ msg : List UInt8, msg = ([0, 0, 0, 0, 0, 0, 0, 0, 0, 0, 0, 0, 0, 0, 0, 0].set 0 9).set 1 (UInt8.ofNat (IntKind.u8.wrap (i : Int)).toNat) := ⟨_, rfl⟩
          refine tri_conv (s' := koMs seed cuts nz rep k h last i F2 msg) (fun a w hg => (hg.reset (kT := [2, 3, 4, 5, 11, 12, 13, 14, 15, 16, 17, 18, 19, 21, 23]) (kO := [0, 5006, 6002, 7006, 21003]) (by rfl) (by simp)).same ?_ ?_) ?_
          · exact .cons rfl (.cons rfl (.cons rfl (.cons rfl (.cons rfl (.cons rfl (.cons rfl (.cons rfl (.cons rfl (.cons rfl (.cons rfl (.cons rfl (.cons rfl (.cons rfl (.cons rfl .nil))))))))))))))
          · exact .cons (.box rfl) (.cons (.box rfl) (.cons (.box rfl) (.cons (.box rfl) (.cons (.box (by rw [hmsg]; rfl)) .nil))))
          refine tri_reg M hI hn (outs := ?_) (s' := ?_) ?_ ?_ ?_ ?_
          rotate_left 2
          · rfl
          · kernel_rfl
          · simp
            exact ⟨fun _ _ => rfl, hd, by simp [rowFlt]⟩
          have hr := round_live seed msg k (by omega) (rowFlt 40 (fltF F2)) h hd hsn
          refine tri_conv (s' := koR seed cuts nz rep k h last i msg (execL (rowFlt 40 (fltF F2)) (Prg.signI k) h 0)) (fun a w hg => (hg.reset (kT := [2, 3, 4, 5, 11, 12, 13, 14, 15, 16, 17, 18, 19, 23, 24, 25, 27]) (kO := [0, 5006, 6002, 7006, 21003, 22011, 22012]) (by rfl) (by simp)).same ?_ ?_) ?_
          · refine .cons rfl (.cons rfl (.cons rfl (.cons rfl (.cons rfl (.cons rfl (.cons rfl (.cons rfl (.cons rfl (.cons rfl (.cons rfl (.cons rfl (.cons rfl (.cons rfl (.cons rfl (.cons rfl (.cons ?_ .nil))))))))))))))))
            show pvB (execL (rowFlt 40 (fltF F2)) (Prg.signI k) ⟨rowBk h.b.length (bankF h.b), fsRow h.f.length (fsF h.f), h.r⟩ 0).1.isSome = _
            rw [hw_eta]
          · refine .cons (.box rfl) (.cons (.box rfl) (.cons (.box rfl) (.cons (.box rfl) (.cons (.box rfl) (.cons (.box ?_) (.cons (.box ?_) .nil))))))
            · show hwL (execL (rowFlt 40 (fltF F2)) (Prg.signI k) ⟨rowBk h.b.length (bankF h.b), fsRow h.f.length (fsF h.f), h.r⟩ 0).2.1 = _
              rw [hw_eta]
            · show outPC seed msg k (execL (rowFlt 40 (fltF F2)) (Prg.signI k) ⟨rowBk h.b.length (bankF h.b), fsRow h.f.length (fsF h.f), h.r⟩ 0).1 = _
              rw [hw_eta]
          generalize execL (rowFlt 40 (fltF F2)) (Prg.signI k) h 0 = q at hr ⊢
          refine tri_reg M hI hn (outs := ?_) (s' := ?_) ?_ ?_ ?_ ?_
          rotate_left 2
          · rfl
          · kernel_rfl
          · simp
          refine tri_seq ?_
          refine tri_reg M hI hn (outs := ?_) (s' := ?_) ?_ ?_ ?_ ?_
          rotate_left 2
          · rfl
          · kernel_rfl
          · simp
          refine tri_cond (b := ?_) ?_ (fun hc => ?_) (fun hc => ?_)
          rotate_left 1
          · rfl
          · refine tri_region M hI hn (outs := ?_) (s' := ?_) ?_ ?_ ?_ ?_
            rotate_left 2
            · rfl
            · kernel_rfl
            · simp
            change Tri _ _ _ _ _
            refine tri_conv (s' := koT seed cuts nz rep k ⟨q.2.1.b, ksH0.f, q.2.1.r⟩ last i msg q.1) (fun a w hg => (hg.reset (kT := [2, 3, 4, 5, 11, 12, 13, 14, 15, 16, 17, 18, 19, 23, 25, 27]) (kO := [0, 5006, 6002, 7006, 21003, 22012]) (by rfl) (by simp)).same ?_ ?_) ?_
            · exact .cons rfl (.cons rfl (.cons rfl (.cons rfl (.cons rfl (.cons rfl (.cons rfl (.cons rfl (.cons rfl (.cons rfl (.cons rfl (.cons rfl (.cons rfl (.cons rfl (.cons rfl (.cons rfl .nil)))))))))))))))
            · exact .cons (.box rfl) (.cons (.box rfl) (.cons (.box rfl) (.cons (.box rfl) (.cons (.box rfl) (.cons (.box rfl) .nil)))))
            have hd' : Dim ⟨q.2.1.b, ksH0.f, q.2.1.r⟩ := ⟨⟨hr.dim.ok.nb, hr.dim.ok.nc, hr.dim.ok.val, ksD0.ok.nf, ksD0.ok.sz, hr.dim.ok.rt⟩, hr.dim.n, hr.dim.l⟩
            have hc' : c2 ⟨q.2.1.b, ksH0.f, q.2.1.r⟩ = c2 q.2.1 := rfl
            generalize (⟨q.2.1.b, ksH0.f, q.2.1.r⟩ : HwS) = h' at hd' hc' ⊢
            have hnew := hr.new
            have hmono := hr.mono
            have hsn' := hr.snd
            rw [← hc'] at hnew hmono hsn'
            generalize q.1 = o at hnew ⊢
            cases o with
            | none =>
              refine tri_seq ?_
              refine tri_reg M hI hn (outs := ?_) (s' := ?_) ?_ ?_ ?_ ?_
              rotate_left 2
              · rfl
              · kernel_rfl
              · simp
              refine tri_cond (b := ?_) ?_ (fun hc => ?_) (fun hc => ?_)
              rotate_left 1
              · rfl
              · refine tri_seq ?_
                refine tri_reg M hI hn (outs := ?_) (s' := ?_) ?_ ?_ ?_ ?_
                rotate_left 2
                · rfl
                · kernel_rfl
                · simp
                refine tri_cond (b := ?_) ?_ (fun hc => ?_) (fun hc => ?_)
                rotate_left 1
                · rfl
                · cases hc
                · refine tri_skip ?_
                  change Tri _ _ _ _ _
                  refine tri_exit ?_
                  change Tri _ _ _ _ _
                  refine tri_region M hI hn (outs := ?_) (s' := ?_) ?_ ?_ ?_ ?_
                  rotate_left 2
                  · rfl
                  · kernel_rfl
                  · simp
                  intro a w hg
                  refine ⟨i + 1, _, by omega, by omega, ⟨h', last, nz, rfl, hd', hsn', by omega, by omega⟩, (hg.reset (kT := [2, 3, 4, 5, 11, 12, 13, 14, 15, 16, 17, 18, 19]) (kO := [0, 5006, 6002, 7006]) (by rfl) (by simp)).same ?_ ?_⟩
                  · exact .cons rfl (.cons rfl (.cons rfl (.cons rfl (.cons rfl (.cons rfl (.cons rfl (.cons rfl (.cons rfl (.cons rfl (.cons rfl (.cons rfl (.cons (by rw [wrap_nat i (by omega)]) .nil))))))))))))
                  · exact .cons (.box rfl) (.cons (.box rfl) (.cons (.box rfl) (.cons (.box rfl) .nil)))
              · cases hc
            | some p =>
              rcases hnew p rfl with h17 | ⟨x, hx, hxk, hx1, hx2⟩
              · have e17 : (outS seed msg k (some p)).2 = 17 := h17
                refine tri_seq ?_
                refine tri_reg M hI hn (outs := ?_) (s' := ?_) ?_ ?_ ?_ ?_
                rotate_left 2
                · rfl
                · kernel_rfl
                · simp
                refine tri_cond (b := ?_) ?_ (fun hc => ?_) (fun hc => ?_)
                rotate_left 1
                · rfl
                · refine tri_seq ?_
                  refine tri_reg M hI hn (outs := ?_) (s' := ?_) ?_ ?_ ?_ ?_
                  rotate_left 2
                  · rfl
                  · kernel_rfl
                  · simp
                  refine tri_cond (b := ?_) ?_ (fun hc => ?_) (fun hc => ?_)
                  rotate_left 1
                  · rfl
                  · exfalso
                    have hc' : ((outS seed msg k (some p)).2 != 17) = true := hc
                    rw [e17] at hc'
                    cases hc'
                  · refine tri_skip ?_
                    change Tri _ _ _ _ _
                    refine tri_exit ?_
                    change Tri _ _ _ _ _
                    refine tri_region M hI hn (outs := ?_) (s' := ?_) ?_ ?_ ?_ ?_
                    rotate_left 2
                    · rfl
                    · kernel_rfl
                    · simp
                    intro a w hg
                    refine ⟨i + 1, _, by omega, by omega, ⟨h', last, nz, rfl, hd', hsn', by omega, by omega⟩, (hg.reset (kT := [2, 3, 4, 5, 11, 12, 13, 14, 15, 16, 17, 18, 19]) (kO := [0, 5006, 6002, 7006]) (by rfl) (by simp)).same ?_ ?_⟩
                    · exact .cons rfl (.cons rfl (.cons rfl (.cons rfl (.cons rfl (.cons rfl (.cons rfl (.cons rfl (.cons rfl (.cons rfl (.cons rfl (.cons rfl (.cons (by rw [wrap_nat i (by omega)]) .nil))))))))))))
                    · exact .cons (.box rfl) (.cons (.box rfl) (.cons (.box rfl) (.cons (.box rfl) .nil)))
                · exfalso
                  have hc' : ((outS seed msg k (some p)).2 != 0) = false := hc
                  rw [e17] at hc'
                  cases hc'
              · have ho : outPC seed msg k (some p) = oPC x (sgnT seed (k : Int) (x : Int) msg).1 0 := by
                  show sigPC (sgO seed (k : Int) msg p).1 ++ [.lit (.int .i64 (sgO seed (k : Int) msg p).2)] = _
                  rw [hx]
                  exact out_yes seed msg k x (by omega) hxk
                unfold koT
                rw [ho]
                refine tri_seq ?_
                refine tri_reg M hI hn (outs := ?_) (s' := ?_) ?_ ?_ ?_ ?_
                rotate_left 2
                · rfl
                · kernel_rfl
                · simp
                refine tri_cond (b := ?_) ?_ (fun hc => ?_) (fun hc => ?_)
                rotate_left 1
                · rfl
                · cases hc
                · refine tri_skip ?_
                  change Tri _ _ _ _ _
                  refine tri_seq ?_
                  have hver := ver_own8 seed msg k x (by omega) hxk
                  have hpl := (sgnT_small seed msg (k : Int) (x : Int)).2
                  have hix : (sgnT seed (k : Int) (x : Int) msg).1.index = (x : Int) := by rw [sgnT_yes seed msg k x (by omega) hxk]
                  generalize (sgnT seed (k : Int) (x : Int) msg).1 = Sg at hver hpl hix ⊢
                  refine tri_reg M hI hn (outs := ?_) (s' := ?_) ?_ ?_ ?_ ?_
                  rotate_left 2
                  · rfl
                  · kernel_rfl
                  · simp
                    exact fun _ => by omega
                  refine tri_cond (b := ?_) ?_ (fun hc => ?_) (fun hc => ?_)
                  rotate_left 1
                  · rfl
                  · exfalso
                    have hc' : (bif decide ((x : Int) ≤ last) then true else !verS (rootT seed (k : Int)).1 (k : Int) msg ⟨(x : Int), rowD Sg.chain.length (digF Sg.chain), rowD Sg.path.length (digF Sg.path)⟩) = true := hc
                    rw [rowD_digF, rowD_digF, show (⟨(x : Int), Sg.chain, Sg.path⟩ : Sig) = Sg by rw [← hix], hver, decide_eq_false (by omega)] at hc'
                    cases hc'
                  · refine tri_skip ?_
                    change Tri _ _ _ _ _
                    refine tri_region M hI hn (outs := ?_) (s' := ?_) ?_ ?_ ?_ ?_
                    rotate_left 2
                    · rfl
                    · kernel_rfl
                    · simp
                    change Tri _ _ _ _ _
                    refine tri_region M hI hn (outs := ?_) (s' := ?_) ?_ ?_ ?_ ?_
                    rotate_left 2
                    · rfl
                    · kernel_rfl
                    · simp
                    intro a w hg
                    refine ⟨i + 1, _, by omega, by omega, ⟨h', (x:Int), nz, rfl, hd', hsn', by omega, by omega⟩, (hg.reset (kT := [2, 3, 4, 5, 11, 12, 13, 14, 15, 16, 17, 18, 19]) (kO := [0, 5006, 6002, 7006]) (by rfl) (by simp)).same ?_ ?_⟩
                    · exact .cons rfl (.cons rfl (.cons rfl (.cons rfl (.cons rfl (.cons rfl (.cons rfl (.cons rfl (.cons rfl (.cons rfl (.cons rfl (.cons rfl (.cons (by rw [wrap_nat i (by omega)]) .nil))))))))))))
                    · exact .cons (.box rfl) (.cons (.box rfl) (.cons (.box rfl) (.cons (.box rfl) .nil)))
          · refine tri_skip ?_
            change Tri _ _ _ _ _
            refine tri_conv (s' := koT seed cuts nz rep k q.2.1 last i msg q.1) (fun a w hg => (hg.reset (kT := [2, 3, 4, 5, 11, 12, 13, 14, 15, 16, 17, 18, 19, 23, 25, 27]) (kO := [0, 5006, 6002, 7006, 21003, 22012]) (by rfl) (by simp)).same ?_ ?_) ?_
            · exact .cons rfl (.cons rfl (.cons rfl (.cons rfl (.cons rfl (.cons rfl (.cons rfl (.cons rfl (.cons rfl (.cons rfl (.cons rfl (.cons rfl (.cons rfl (.cons rfl (.cons rfl (.cons rfl .nil)))))))))))))))
            · exact .cons (.box rfl) (.cons (.box rfl) (.cons (.box rfl) (.cons (.box rfl) (.cons (.box rfl) (.cons (.box rfl) .nil)))))
            have hd' := hr.dim
            obtain ⟨h', hh'⟩ : ∃ h', h' = q.2.1 := ⟨_, rfl⟩
            rw [← hh'] at hd' ⊢
            have hc' : c2 h' = c2 q.2.1 := by rw [hh']
            clear hh'
            have hnew := hr.new
            have hmono := hr.mono
            have hsn' := hr.snd
            rw [← hc'] at hnew hmono hsn'
            generalize q.1 = o at hnew ⊢
            cases o with
            | none =>
              refine tri_seq ?_
              refine tri_reg M hI hn (outs := ?_) (s' := ?_) ?_ ?_ ?_ ?_
              rotate_left 2
              · rfl
              · kernel_rfl
              · simp
              refine tri_cond (b := ?_) ?_ (fun hc => ?_) (fun hc => ?_)
              rotate_left 1
              · rfl
              · refine tri_seq ?_
                refine tri_reg M hI hn (outs := ?_) (s' := ?_) ?_ ?_ ?_ ?_
                rotate_left 2
                · rfl
                · kernel_rfl
                · simp
                refine tri_cond (b := ?_) ?_ (fun hc => ?_) (fun hc => ?_)
                rotate_left 1
                · rfl
                · cases hc
                · refine tri_skip ?_
                  change Tri _ _ _ _ _
                  refine tri_exit ?_
                  change Tri _ _ _ _ _
                  refine tri_region M hI hn (outs := ?_) (s' := ?_) ?_ ?_ ?_ ?_
                  rotate_left 2
                  · rfl
                  · kernel_rfl
                  · simp
                  intro a w hg
                  refine ⟨i + 1, _, by omega, by omega, ⟨h', last, nz, rfl, hd', hsn', by omega, by omega⟩, (hg.reset (kT := [2, 3, 4, 5, 11, 12, 13, 14, 15, 16, 17, 18, 19]) (kO := [0, 5006, 6002, 7006]) (by rfl) (by simp)).same ?_ ?_⟩
                  · exact .cons rfl (.cons rfl (.cons rfl (.cons rfl (.cons rfl (.cons rfl (.cons rfl (.cons rfl (.cons rfl (.cons rfl (.cons rfl (.cons rfl (.cons (by rw [wrap_nat i (by omega)]) .nil))))))))))))
                  · exact .cons (.box rfl) (.cons (.box rfl) (.cons (.box rfl) (.cons (.box rfl) .nil)))
              · cases hc
            | some p =>
              rcases hnew p rfl with h17 | ⟨x, hx, hxk, hx1, hx2⟩
              · have e17 : (outS seed msg k (some p)).2 = 17 := h17
                refine tri_seq ?_
                refine tri_reg M hI hn (outs := ?_) (s' := ?_) ?_ ?_ ?_ ?_
                rotate_left 2
                · rfl
                · kernel_rfl
                · simp
                refine tri_cond (b := ?_) ?_ (fun hc => ?_) (fun hc => ?_)
                rotate_left 1
                · rfl
                · refine tri_seq ?_
                  refine tri_reg M hI hn (outs := ?_) (s' := ?_) ?_ ?_ ?_ ?_
                  rotate_left 2
                  · rfl
                  · kernel_rfl
                  · simp
                  refine tri_cond (b := ?_) ?_ (fun hc => ?_) (fun hc => ?_)
                  rotate_left 1
                  · rfl
                  · exfalso
                    have hc' : ((outS seed msg k (some p)).2 != 17) = true := hc
                    rw [e17] at hc'
                    cases hc'
                  · refine tri_skip ?_
                    change Tri _ _ _ _ _
                    refine tri_exit ?_
                    change Tri _ _ _ _ _
                    refine tri_region M hI hn (outs := ?_) (s' := ?_) ?_ ?_ ?_ ?_
                    rotate_left 2
                    · rfl
                    · kernel_rfl
                    · simp
                    intro a w hg
                    refine ⟨i + 1, _, by omega, by omega, ⟨h', last, nz, rfl, hd', hsn', by omega, by omega⟩, (hg.reset (kT := [2, 3, 4, 5, 11, 12, 13, 14, 15, 16, 17, 18, 19]) (kO := [0, 5006, 6002, 7006]) (by rfl) (by simp)).same ?_ ?_⟩
                    · exact .cons rfl (.cons rfl (.cons rfl (.cons rfl (.cons rfl (.cons rfl (.cons rfl (.cons rfl (.cons rfl (.cons rfl (.cons rfl (.cons rfl (.cons (by rw [wrap_nat i (by omega)]) .nil))))))))))))
                    · exact .cons (.box rfl) (.cons (.box rfl) (.cons (.box rfl) (.cons (.box rfl) .nil)))
                · exfalso
                  have hc' : ((outS seed msg k (some p)).2 != 0) = false := hc
                  rw [e17] at hc'
                  cases hc'
              · have ho : outPC seed msg k (some p) = oPC x (sgnT seed (k : Int) (x : Int) msg).1 0 := by
                  show sigPC (sgO seed (k : Int) msg p).1 ++ [.lit (.int .i64 (sgO seed (k : Int) msg p).2)] = _
                  rw [hx]
                  exact out_yes seed msg k x (by omega) hxk
                unfold koT
                rw [ho]
                refine tri_seq ?_
                refine tri_reg M hI hn (outs := ?_) (s' := ?_) ?_ ?_ ?_ ?_
                rotate_left 2
                · rfl
                · kernel_rfl
                · simp
                refine tri_cond (b := ?_) ?_ (fun hc => ?_) (fun hc => ?_)
                rotate_left 1
                · rfl
                · cases hc
                · refine tri_skip ?_
                  change Tri _ _ _ _ _
                  refine tri_seq ?_
                  have hver := ver_own8 seed msg k x (by omega) hxk
                  have hpl := (sgnT_small seed msg (k : Int) (x : Int)).2
                  have hix : (sgnT seed (k : Int) (x : Int) msg).1.index = (x : Int) := by rw [sgnT_yes seed msg k x (by omega) hxk]
                  generalize (sgnT seed (k : Int) (x : Int) msg).1 = Sg at hver hpl hix ⊢
                  refine tri_reg M hI hn (outs := ?_) (s' := ?_) ?_ ?_ ?_ ?_
                  rotate_left 2
                  · rfl
                  · kernel_rfl
                  · simp
                    exact fun _ => by omega
                  refine tri_cond (b := ?_) ?_ (fun hc => ?_) (fun hc => ?_)
                  rotate_left 1
                  · rfl
                  · exfalso
                    have hc' : (bif decide ((x : Int) ≤ last) then true else !verS (rootT seed (k : Int)).1 (k : Int) msg ⟨(x : Int), rowD Sg.chain.length (digF Sg.chain), rowD Sg.path.length (digF Sg.path)⟩) = true := hc
                    rw [rowD_digF, rowD_digF, show (⟨(x : Int), Sg.chain, Sg.path⟩ : Sig) = Sg by rw [← hix], hver, decide_eq_false (by omega)] at hc'
                    cases hc'
                  · refine tri_skip ?_
                    change Tri _ _ _ _ _
                    refine tri_region M hI hn (outs := ?_) (s' := ?_) ?_ ?_ ?_ ?_
                    rotate_left 2
                    · rfl
                    · kernel_rfl
                    · simp
                    change Tri _ _ _ _ _
                    refine tri_region M hI hn (outs := ?_) (s' := ?_) ?_ ?_ ?_ ?_
                    rotate_left 2
                    · rfl
                    · kernel_rfl
                    · simp
                    intro a w hg
                    refine ⟨i + 1, _, by omega, by omega, ⟨h', (x:Int), nz, rfl, hd', hsn', by omega, by omega⟩, (hg.reset (kT := [2, 3, 4, 5, 11, 12, 13, 14, 15, 16, 17, 18, 19]) (kO := [0, 5006, 6002, 7006]) (by rfl) (by simp)).same ?_ ?_⟩
                    · exact .cons rfl (.cons rfl (.cons rfl (.cons rfl (.cons rfl (.cons rfl (.cons rfl (.cons rfl (.cons rfl (.cons rfl (.cons rfl (.cons rfl (.cons (by rw [wrap_nat i (by omega)]) .nil))))))))))))
                    · exact .cons (.box rfl) (.cons (.box rfl) (.cons (.box rfl) (.cons (.box rfl) .nil)))
    · have hi2 : i = cuts.length := by
        have hc' : decide ((i : Int) < (cuts.length : Int)) = false := hc
        have := of_decide_eq_false hc'
        omega
      subst hi2
      refine tri_exit ?_
      change Tri _ _ _ _ _
      refine tri_reg M hI hn (outs := ?_) (s' := ?_) ?_ ?_ ?_ ?_
      rotate_left 2
      · rfl
      · kernel_rfl
      · simp
      refine tri_ret (fun a w hg => ⟨.inr rfl, _, ?_, hg⟩)
      refine retTo_cold (out := ?_) ?_ ?_ ?_ ?_ ?_
      rotate_left 1
      · rfl
      · simp
      · rfl
      · rfl
      rfl
end Go.Proofs.YtihghljfmlbfhaaDoor.Pv
