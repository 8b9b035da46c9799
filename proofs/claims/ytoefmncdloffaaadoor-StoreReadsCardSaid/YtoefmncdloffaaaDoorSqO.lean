/-
  Several texts in one file: each has its own heading below.
-/
import Derived.Test.YtoefmncdloffaaaDoorSqN
import Derived.Test.YtoefmncdloffaaaDoorSqM


namespace Go.Proofs.YtoefmncdloffaaaDoor.Pv
open Go.RowKit
def accF (l : List Acc) : Nat → List PC := fun i => accPC (l.getD i zeroAcc)
theorem accF_cold (l : List Acc) (i : Nat) : ∀ x ∈ accF l i, coldPC false x = true := fun x hx => by
  change x ∈ [_, _, _, _] at hx
  simp only [List.mem_cons, List.not_mem_nil, or_false] at hx
  rcases hx with rfl | rfl | rfl | rfl <;> rfl
theorem accF_snoc {X : List Acc} {k : Nat} (hX : X.length = k) (r : Acc) {g : Nat → List PC} (hg : g 0 = accPC r) {i : Nat} (hi : i < k + 1) : appF k (accF X) g i = accF (X ++ [r]) i := by
  unfold appF accF
  by_cases h : i < k
  · rw [if_pos h, List.getD_eq_getElem?_getD, List.getD_eq_getElem?_getD, List.getElem?_append_left (by omega)]
  · obtain rfl : i = k := by omega
    rw [if_neg h, Nat.sub_self, hg, List.getD_eq_getElem?_getD, List.getElem?_append_right (by omega), hX, Nat.sub_self]
    rfl
def updPC (u : Upd) : List PC := [.lit (.int .i64 u.rec_), .lit (.string u.content), .lit (.int .i64 u.cut), .lit (.int .i64 u.bytes)]
def putPV (x : Fl × StO × Bool × List Acc) : PV := .tup [.agg (flPC x.1), .agg (stoPC x.2.1), .one (.lit (.bool x.2.2.1)), .one (.sl 4 x.2.2.2.length (accF x.2.2.2))]
theorem putF_all {f : Fl} {u : Upd} {A : List Acc} (hA : accP (Prg.save u.rec_ u.content) f = A) (h : u.cut < 0 ∨ (A.length : Int) ≤ u.cut) : putF f u = (flP A f, outP (Prg.save u.rec_ u.content) f, true, A) := by
  unfold putF
  rw [execP_eq, dif_neg (by rw [hA, List.length_nil]; omega), hA]
  rfl
theorem putF_cut {f : Fl} {u : Upd} {A : List Acc} (hA : accP (Prg.save u.rec_ u.content) f = A) {k : Nat} (hk : u.cut = (k : Int)) (h : k < A.length) : putF f u = (stepF (max 0 u.bytes) (A[k]'h) (flP (A.take k) f), zeroO, false, A.take (k + 1)) := by
  subst hA
  unfold putF
  have e : (u.cut - ((([] : List Acc).length : Nat) : Int)).toNat = k := by rw [List.length_nil]; omega
  rw [execP_eq, dif_pos ⟨by rw [List.length_nil]; omega, by rw [e]; exact h⟩]
  dsimp only
  simp only [e, List.nil_append]
theorem save_kinds {f : Fl} {u : Upd} (h : Fine f u) : ∀ a ∈ accP (Prg.save u.rec_ u.content) f, a.kind = 3 ∨ a.kind = 4 := by
  rw [(save_P (c := u.content) h.r0 h.r3 h.c h.s).1]
  have hw : ∀ (s : Int) (b : List UInt8) (n i : Nat), ∀ a ∈ wrsL s b n i, a.kind = 4 := by
    intro s b n
    induction n with
    | zero => intro i a ha; cases ha
    | succ n ih =>
      intro i a ha
      rcases List.mem_cons.1 ha with rfl | ha
      · rfl
      · exact ih _ a ha
  intro a ha
  rcases List.mem_append.1 ha with ha | ha
  · exact .inl (rdL_reads _ a ha)
  · refine .inr ?_
    rcases List.mem_cons.1 ha with rfl | ha
    · rfl
    · rcases List.mem_append.1 ha with ha | ha
      · exact hw _ _ _ _ a ha
      · rw [List.mem_singleton] at ha
        subst ha
        rfl
theorem save_len {f : Fl} {u : Upd} (h : Fine f u) : (accP (Prg.save u.rec_ u.content) f).length ≤ 40 := by
  rw [(save_P (c := u.content) h.r0 h.r3 h.c h.s).1, List.length_append, rdL_length]
  have h1 := h.nsec
  have h2 := writeL_length (newF f u) (newB f u) h.len.1
  change 16 + (writeL (newF f u) (newB f u)).length ≤ 40
  omega
theorem flP_take {A : List Acc} {f : Fl} {k : Nat} (hk : k < A.length) : flP (A.take (k + 1)) f = stepF (-1) (A[k]'hk) (flP (A.take k) f) := by
  rw [List.take_add_one, List.getElem?_eq_getElem hk, flP_app]
  rfl
def ptO (g : Fl) (u : Upd) (L : List Res) (A : List Acc) (k : Nat) : Wr := [(0, none, 0, .box 72 (flPC g)), (1, none, 0, .box 74 (updPC u)), (2, none, 0, .box 72 [.lit (.slice none 0 0)]), (3, none, 0, .box 61 (stoPC ⟨noBytes, 0, 0⟩)), (7000, none, 0, .arr 118 2 k (resF (L.take k))), (7001, none, 0, .arr 59 4 k (accF (A.take k)))]
def ptT (k : Nat) : List (Nat × Option Bool × PV) := [(2, none, pv1 (.pt 0 0 0)), (3, none, pv1 (.pt 1 0 0)), (4, none, pv1 (.pt 2 0 0)), (5, none, pv1 (.pt 3 0 0)), (8, none, pv1 (.ow 7000 0 2 0 k)), (9, none, pv1 (.ow 7001 0 4 0 k)), (17, none, pvI (k : Int))]
def ptSt (g : Fl) (u : Upd) (L : List Res) (A : List Acc) (k : Nat) : St := ⟨ptT k, ptO g u L A k⟩
def pt2St (g : Fl) (u : Upd) (L : List Res) (A : List Acc) (k : Nat) (x : Acc × StO × Bool) : St := ⟨(10, none, pvI (k : Int)) :: (11, none, pv1 (.pt 6010 0 0)) :: (12, none, pv1 (.pt 6011 0 0)) :: (13, none, lit1 (.bool x.2.2)) :: ptT k, (6010, none, 0, .box 59 (accPC x.1)) :: (6011, none, 0, .box 61 (stoPC x.2.1)) :: ptO g u L A k⟩
theorem four_ne : ¬ (4 : Int) = 3 := by decide
def pt3St (g : Fl) (u : Upd) (L : List Res) (A : List Acc) (k : Nat) : St := ⟨[(10, none, pvI (k : Int)), (12, none, pv1 (.pt 6011 0 0)), (2, none, pv1 (.pt 0 0 0)), (3, none, pv1 (.pt 1 0 0)), (4, none, pv1 (.pt 2 0 0)), (5, none, pv1 (.pt 3 0 0)), (8, none, pv1 (.ow 7000 0 2 0 (k + 1))), (9, none, pv1 (.ow 7001 0 4 0 (k + 1))), (17, none, pvI (k : Int))], (6011, none, 0, .box 61 (stoPC ⟨noBytes, 0, 0⟩)) :: ptO g u L A (k + 1)⟩
set_option maxRecDepth 100000 in
set_option maxHeartbeats 4000000 in
theorem put_fun (f : Fl) (u : Upd) (h : Fine f u) : FunOk Tryd.prog ShaMem 48 false [flV f, .w (.agg (updPC u))] (putPV (putF f u)) := by
  have M := ls3M
  have hAk := save_kinds h
  have hAl := save_len h
  obtain ⟨A, hA⟩ : ∃ A, accP (Prg.save u.rec_ u.content) f = A := ⟨_, rfl⟩
  obtain ⟨L, hL⟩ : ∃ L, ansP (Prg.save u.rec_ u.content) f = L := ⟨_, rfl⟩
  have hLl : L.length = A.length := by rw [← hL, ansP_length, hA]
  have hLs : ∀ r ∈ L, r.bytes.size ≤ 256 := by rw [← hL]; exact ansP_short _ h.sz
  have hnx : ∀ k (hk : k < A.length), L.take (k + 1) = L.take k ++ [ansF (A[k]'hk) (flP (A.take k) f)] := fun k hk => by
    subst hA hL
    exact take_next _ f hk
  have hPk : ∀ k (hk : k < A.length), plR (Prg.save u.rec_ u.content) (L.take k) = (A[k]'hk, ⟨noBytes, 0, 0⟩, false) := fun k hk => by
    subst hA hL
    exact plR_take _ f hk
  have hPe : plR (Prg.save u.rec_ u.content) L = (zeroAcc, outP (Prg.save u.rec_ u.content) f, true) := by rw [← hL]; exact plR_end _ f
  have hall := fun h1 => putF_all (f := f) (u := u) hA h1
  have hcut := fun k (hk : u.cut = ((k : Nat) : Int)) h1 => putF_cut (f := f) (u := u) hA hk h1
  rw [hA] at hAk hAl
  have hb1 : Tryd.prog.types[118].bytes = 24 := by kernel_rfl
  have hs1 : Tryd.prog.types[118].size = 2 := by kernel_rfl
  have hb2 : Tryd.prog.types[59].bytes = 40 := by kernel_rfl
  have hs2 : Tryd.prog.types[59].size = 4 := by kernel_rfl
  generalize putF f u = R at hall hcut ⊢
  generalize outP (Prg.save u.rec_ u.content) f = oo at hall hPe
  have hi64 : i64P u.rec_ := ⟨by have := h.r0; omega, by have := h.r3; omega⟩
  have hsz0 := h.sz
  clear hL hA h
  refine funOk_of Tryd.func48 rfl rfl sha_ext (fun A1 hS hn hI => ?_)
  refine tri_reg M hI hn (outs := ?_) (s' := ?_) ?_ ?_ ?_ ?_
  rotate_left 2
  · rfl
  · kernel_rfl
  · simp
  refine tri_reg M hI hn (outs := ?_) (s' := ?_) ?_ ?_ ?_ ?_
  rotate_left 2
  · rfl
  · kernel_rfl
  · simp
  refine tri_reg M hI hn (outs := ?_) (s' := ?_) ?_ ?_ ?_ ?_
  rotate_left 2
  · rfl
  · kernel_rfl
  · simp
  refine tri_seq ?_
  refine tri_reg M hI hn (outs := ?_) (s' := ?_) ?_ ?_ ?_ ?_
  rotate_left 2
  · rfl
  · kernel_rfl
  · simp
  refine tri_block ?_
  refine tri_conv (s' := ptSt f u L A 0) (fun a w hg => (((hg.nilRow (x := 7000) (e := 118) (n := 2) (t := 8) (by rfl) (by rfl)).nilRow (x := 7001) (e := 59) (n := 4) (t := 9) (by rfl) (by rfl)).reset (kT := [2, 3, 4, 5, 8, 9, 17]) (kO := [0, 1, 2, 3, 7000, 7001]) (by rfl) (by simp)).same ?_ ?_) ?_
  · exact .cons rfl (.cons rfl (.cons rfl (.cons rfl (.cons rfl (.cons rfl (.cons rfl .nil))))))
  · exact .cons (.box rfl) (.cons (.box rfl) (.cons (.box rfl) (.cons (.box rfl) (.cons (.arr rfl (fun i hi => absurd hi (by simp))) (.cons (.arr rfl (fun i hi => absurd hi (by simp))) .nil)))))
  refine tri_loop A.length (fun k t => t = ptSt (flP (A.take k) f) u L A k ∧ (u.cut < 0 ∨ (k : Int) ≤ u.cut)) 0 ⟨rfl, by omega⟩ (by omega) (fun k t hJ hk => ?_)
  obtain ⟨rfl, hck⟩ := hJ
  refine tri_reg M hI hn (outs := ?_) (s' := ?_) ?_ ?_ ?_ ?_
  rotate_left 2
  · rfl
  · kernel_rfl
  · simp
  refine tri_seq ?_
  refine tri_cond (b := ?_) ?_ (fun hc => ?_) (fun hc => ?_)
  rotate_left 1
  · rfl
  · refine tri_skip ?_
    change Tri _ _ _ _ _
    refine tri_seq ?_
    refine tri_block ?_
    refine tri_reg M hI hn (outs := ?_) (s' := ?_) ?_ ?_ ?_ ?_
    rotate_left 2
    · rfl
    · kernel_rfl
    · simp
    have hlen : (L.take k).length = k := by rw [List.length_take]; omega
    have hlenA : (A.take k).length = k := by rw [List.length_take]; omega
    have hrow : rowRes k (resF (L.take k)) = L.take k := by
      have := rowRes_resF (L.take k)
      rw [hlen] at this
      exact this
    have hrow0 : (rowRes k fun i => resF (L.take k) (0 + i)) = L.take k := by simp only [Nat.zero_add]; exact hrow
    have hgsz : Sz (flP (A.take k) f) := flP_sz hsz0
    refine tri_reg M hI hn (outs := ?_) (s' := ?_) ?_ ?_ ?_ ?_
    rotate_left 2
    · rfl
    · kernel_rfl
    · simp
      rw [hrow]
      exact ⟨fun i _ x hx => resF_cold _ i x hx, hi64, fun r hr => Nat.le_trans (hLs r (List.mem_of_mem_take hr)) (by omega)⟩
    refine tri_conv (s' := pt2St (flP (A.take k) f) u L A k (plR (Prg.save u.rec_ u.content) (L.take k))) (fun a w hg => (hg.reset (kT := [10, 11, 12, 13, 2, 3, 4, 5, 8, 9, 17]) (kO := [6010, 6011, 0, 1, 2, 3, 7000, 7001]) (by rfl) (by simp; exact ⟨fun i _ x hx => resF_cold _ i x hx, fun i _ x hx => accF_cold _ i x hx⟩)).same ?_ ?_) ?_
    · rw [hrow0]
      exact .cons rfl (.cons rfl (.cons rfl (.cons rfl (.cons rfl (.cons rfl (.cons rfl (.cons rfl (.cons rfl (.cons rfl (.cons rfl .nil))))))))))
    · rw [hrow0]
      exact .cons (.box rfl) (.cons (.box rfl) (.cons (.box rfl) (.cons (.box rfl) (.cons (.box rfl) (.cons (.box rfl) (.cons (.arr rfl (fun i _ => rfl)) (.cons (.arr rfl (fun i _ => rfl)) .nil)))))))
    by_cases hkl : k < A.length
    · rw [hPk k hkl]
      have hkind := hAk _ (List.getElem_mem hkl)
      have hnxk := hnx k hkl
      have hfl := flP_take (f := f) hkl
      have hAt : A.take (k + 1) = A.take k ++ [A[k]'hkl] := by rw [List.take_add_one, List.getElem?_eq_getElem hkl]; rfl
      have hcutk := fun hc => hcut k hc hkl
      have hlenA1 : (A.take (k + 1)).length = k + 1 := by rw [List.length_take]; omega
      generalize A[k]'hkl = a at hkind hnxk hfl hAt hcutk ⊢
      generalize hg : flP (A.take k) f = g at *
      obtain ⟨ak, ab, ac, ax⟩ := a
      refine tri_seq ?_
      refine tri_reg M hI hn (outs := ?_) (s' := ?_) ?_ ?_ ?_ ?_
      rotate_left 2
      · rfl
      · kernel_rfl
      · simp
      refine tri_cond (b := ?_) ?_ (fun hc => ?_) (fun hc => ?_)
      rotate_left 1
      · rfl
      · cases hc
      refine tri_skip ?_
      change Tri _ _ _ _ _
      refine tri_reg M hI hn (outs := ?_) (s' := ?_) ?_ ?_ ?_ ?_
      rotate_left 2
      · rfl
      · kernel_rfl
      · simp
        rw [hb2]
        omega
      rcases hkind with hkind | hkind <;> obtain rfl : ak = _ := hkind
      · refine tri_seq ?_
        refine tri_reg M hI hn (outs := ?_) (s' := ?_) ?_ ?_ ?_ ?_
        rotate_left 2
        · rfl
        · kernel_rfl
        · simp
        refine tri_block ?_
        refine tri_reg M hI hn (outs := ?_) (s' := ?_) ?_ ?_ ?_ ?_
        rotate_left 2
        · rfl
        · kernel_rfl
        · simp
        refine tri_cond (b := ?_) ?_ (fun hc => ?_) (fun hc => ?_)
        rotate_left 1
        · rfl
        · refine tri_reg M hI hn (outs := ?_) (s' := ?_) ?_ ?_ ?_ ?_
          rotate_left 2
          · rfl
          · kernel_rfl
          · simp
          rw [fsRow_fsF]
          refine tri_region M hI hn (outs := ?_) (s' := ?_) ?_ ?_ ?_ ?_
          rotate_left 2
          · rfl
          · kernel_rfl
          · simp
            rw [hb1]
            omega
          change Tri _ _ _ _ _
          refine tri_conv (s' := pt3St (g) u L A k) (fun a w hg => (hg.reset (kT := [10, 12, 2, 3, 4, 5, 8, 9, 17]) (kO := [6011, 0, 1, 2, 3, 7000, 7001]) (by rfl) ?_).same ?_ ?_) ?_
          · simp only [All, and_true, List.append_nil, List.nil_append, List.cons_append]
            refine ⟨fun i _ => cold_app2 (fun _ => rfl) (fun j => ?_) i, fun i _ => cold_app2 (fun _ => rfl) (fun j => ?_) i⟩
            · rw [Nat.zero_add]; cases j <;> rfl
            · rw [Nat.zero_add]; cases j <;> rfl
          · exact .cons rfl (.cons rfl (.cons rfl (.cons rfl (.cons rfl (.cons rfl (.cons (congrArg (fun n => pv1 (.ow 7000 0 n 0 (k + 1))) hs1) (.cons (congrArg (fun n => pv1 (.ow 7001 0 n 0 (k + 1))) hs2) (.cons rfl .nil))))))))
          · refine .cons (.box rfl) (.cons (.box ?_) (.cons (.box rfl) (.cons (.box rfl) (.cons (.box rfl) (.cons (.arr rfl (fun i hi => ?_)) (.cons (.arr rfl (fun i hi => ?_)) .nil))))))
            · rfl
            · rw [hnxk]
              exact resF_snoc hlen _ rfl hi
            · rw [hAt]
              exact accF_snoc hlenA _ rfl hi
          refine tri_reg M hI hn (outs := ?_) (s' := ?_) ?_ ?_ ?_ ?_
          rotate_left 2
          · rfl
          · kernel_rfl
          · simp
          refine tri_cond (b := ?_) ?_ (fun hc => ?_) (fun hc => ?_)
          rotate_left 1
          · rfl
          · refine tri_reg M hI hn (outs := ?_) (s' := ?_) ?_ ?_ ?_ ?_
            rotate_left 2
            · rfl
            · kernel_rfl
            · simp
            have hkc : u.cut = ((k : Nat) : Int) := by simp [] at hc; omega
            have est := (show stepF (max 0 u.bytes) ⟨3, ab, ac, ax⟩ g = g from if_pos rfl)
            rw [hcutk hkc]
            unfold putPV
            dsimp only
            rw [est, hlenA1]
            refine tri_ret (fun a w hg => ⟨.inr rfl, _, ?_, hg⟩)
            refine retTo_ex (out := ?_) ?_ ?_ ?_ ?_
            rotate_left 1
            · rfl
            · simp
            · rfl
            exact .tup (.cons (.agg (exL_refl rfl)) (.cons (.agg (exL_refl rfl)) (.cons (.one (.cold rfl)) (.cons (.one (.row rfl trivial (by omega) (fun j hj => by rw [Nat.zero_add]) (fun j hj => rfl))) .nil))))
          · refine tri_skip ?_
            change Tri _ _ _ _ _
            have hkc : ¬ u.cut = ((k : Nat) : Int) := by simp [] at hc; omega
            have esn := (show stepF (-1) ⟨3, ab, ac, ax⟩ g = g from if_pos rfl)
            refine tri_region M hI hn (outs := ?_) (s' := ?_) ?_ ?_ ?_ ?_
            rotate_left 2
            · rfl
            · kernel_rfl
            · simp
            intro a w hg
            refine ⟨k + 1, _, by omega, by omega, ⟨rfl, by omega⟩, (hg.reset (kT := [2, 3, 4, 5, 8, 9, 17]) (kO := [0, 1, 2, 3, 7000, 7001]) (by rfl) (by simp; exact ⟨fun i _ x hx => resF_cold _ i x hx, fun i _ x hx => accF_cold _ i x hx⟩)).same ?_ ?_⟩
            · exact .cons rfl (.cons rfl (.cons rfl (.cons rfl (.cons rfl (.cons rfl (.cons (by rw [wrap_nat k (by omega)]) .nil))))))
            · exact .cons (.box (by rw [hfl, esn]; rfl)) (.cons (.box rfl) (.cons (.box rfl) (.cons (.box rfl) (.cons (.arr rfl (fun i _ => rfl)) (.cons (.arr rfl (fun i _ => rfl)) .nil)))))
        · cases hc
      · refine tri_seq ?_
        refine tri_reg M hI hn (outs := ?_) (s' := ?_) ?_ ?_ ?_ ?_
        rotate_left 2
        · rfl
        · kernel_rfl
        · simp
        refine tri_block ?_
        refine tri_reg M hI hn (outs := ?_) (s' := ?_) ?_ ?_ ?_ ?_
        rotate_left 2
        · rfl
        · kernel_rfl
        · simp
        refine tri_cond (b := ?_) ?_ (fun hc => ?_) (fun hc => ?_)
        rotate_left 1
        · rfl
        · cases hc
        · refine tri_reg M hI hn (outs := ?_) (s' := ?_) ?_ ?_ ?_ ?_
          rotate_left 2
          · rfl
          · kernel_rfl
          · simp
          refine tri_cond (b := ?_) ?_ (fun hc => ?_) (fun hc => ?_)
          rotate_left 1
          · rfl
          · refine tri_reg M hI hn (outs := ?_) (s' := ?_) ?_ ?_ ?_ ?_
            rotate_left 2
            · rfl
            · kernel_rfl
            · simp
            refine tri_seq ?_
            refine tri_reg M hI hn (outs := ?_) (s' := ?_) ?_ ?_ ?_ ?_
            rotate_left 2
            · rfl
            · kernel_rfl
            · simp
            have hgsm : (∀ x ∈ g, x.size ≤ 1000000) ∧ g.length ≤ 1000000 := ⟨fun x hx => by rw [hgsz.2 x hx]; omega, by rw [hgsz.1]; omega⟩
            refine tri_cond (b := ?_) ?_ (fun hc => ?_) (fun hc => ?_)
            rotate_left 1
            · rfl
            · refine tri_region M hI hn (outs := ?_) (s' := ?_) ?_ ?_ ?_ ?_
              rotate_left 2
              · rfl
              · kernel_rfl
              · simp
              change Tri _ _ _ _ _
              refine tri_reg M hI hn (outs := ?_) (s' := ?_) ?_ ?_ ?_ ?_
              rotate_left 2
              · rfl
              · kernel_rfl
              · simp
                exact hgsm
              refine tri_region M hI hn (outs := ?_) (s' := ?_) ?_ ?_ ?_ ?_
              rotate_left 2
              · rfl
              · kernel_rfl
              · simp
                rw [hb1]
                omega
              change Tri _ _ _ _ _
              have hkc0 : u.cut = ((k : Nat) : Int) := by simp [] at hc; omega
              refine tri_conv (s' := pt3St (fwrite g ac ax (max 0 u.bytes)) u L A k) (fun a w hg => (hg.reset (kT := [10, 12, 2, 3, 4, 5, 8, 9, 17]) (kO := [6011, 0, 1, 2, 3, 7000, 7001]) (by rfl) ?_).same ?_ ?_) ?_
              · simp only [All, and_true, List.append_nil, List.nil_append, List.cons_append]
                refine ⟨fun i _ => cold_app2 (fun _ => rfl) (fun j => ?_) i, fun i _ => cold_app2 (fun _ => rfl) (fun j => ?_) i⟩
                · rw [Nat.zero_add]; cases j <;> rfl
                · rw [Nat.zero_add]; cases j <;> rfl
              · exact .cons rfl (.cons rfl (.cons rfl (.cons rfl (.cons rfl (.cons rfl (.cons (congrArg (fun n => pv1 (.ow 7000 0 n 0 (k + 1))) hs1) (.cons (congrArg (fun n => pv1 (.ow 7001 0 n 0 (k + 1))) hs2) (.cons rfl .nil))))))))
              · refine .cons (.box rfl) (.cons (.box ?_) (.cons (.box rfl) (.cons (.box rfl) (.cons (.box rfl) (.cons (.arr rfl (fun i hi => ?_)) (.cons (.arr rfl (fun i hi => ?_)) .nil))))))
                · (rw [fsRow_fsF]; rfl)
                · rw [hnxk]
                  exact resF_snoc hlen _ rfl hi
                · rw [hAt]
                  exact accF_snoc hlenA _ rfl hi
              refine tri_reg M hI hn (outs := ?_) (s' := ?_) ?_ ?_ ?_ ?_
              rotate_left 2
              · rfl
              · kernel_rfl
              · simp
              refine tri_cond (b := ?_) ?_ (fun hc => ?_) (fun hc => ?_)
              rotate_left 1
              · rfl
              · refine tri_reg M hI hn (outs := ?_) (s' := ?_) ?_ ?_ ?_ ?_
                rotate_left 2
                · rfl
                · kernel_rfl
                · simp
                have hkc : u.cut = ((k : Nat) : Int) := by simp [] at hc; omega
                have est := (show stepF (max 0 u.bytes) ⟨4, ab, ac, ax⟩ g = fwrite g ac ax (max 0 u.bytes) from if_neg four_ne)
                rw [hcutk hkc]
                unfold putPV
                dsimp only
                rw [est, hlenA1]
                refine tri_ret (fun a w hg => ⟨.inr rfl, _, ?_, hg⟩)
                refine retTo_ex (out := ?_) ?_ ?_ ?_ ?_
                rotate_left 1
                · rfl
                · simp
                · rfl
                exact .tup (.cons (.agg (exL_refl rfl)) (.cons (.agg (exL_refl rfl)) (.cons (.one (.cold rfl)) (.cons (.one (.row rfl trivial (by omega) (fun j hj => by rw [Nat.zero_add]) (fun j hj => rfl))) .nil))))
              · refine tri_skip ?_
                change Tri _ _ _ _ _
                have hkc : ¬ u.cut = ((k : Nat) : Int) := by simp [] at hc; omega
                have esn := (absurd hkc0 hkc : stepF (-1) ⟨4, ab, ac, ax⟩ g = fwrite g ac ax (max 0 u.bytes))
                refine tri_region M hI hn (outs := ?_) (s' := ?_) ?_ ?_ ?_ ?_
                rotate_left 2
                · rfl
                · kernel_rfl
                · simp
                intro a w hg
                refine ⟨k + 1, _, by omega, by omega, ⟨rfl, by omega⟩, (hg.reset (kT := [2, 3, 4, 5, 8, 9, 17]) (kO := [0, 1, 2, 3, 7000, 7001]) (by rfl) (by simp; exact ⟨fun i _ x hx => resF_cold _ i x hx, fun i _ x hx => accF_cold _ i x hx⟩)).same ?_ ?_⟩
                · exact .cons rfl (.cons rfl (.cons rfl (.cons rfl (.cons rfl (.cons rfl (.cons (by rw [wrap_nat k (by omega)]) .nil))))))
                · exact .cons (.box (by rw [hfl, esn]; rfl)) (.cons (.box rfl) (.cons (.box rfl) (.cons (.box rfl) (.cons (.arr rfl (fun i _ => rfl)) (.cons (.arr rfl (fun i _ => rfl)) .nil)))))
            · refine tri_skip ?_
              change Tri _ _ _ _ _
              refine tri_reg M hI hn (outs := ?_) (s' := ?_) ?_ ?_ ?_ ?_
              rotate_left 2
              · rfl
              · kernel_rfl
              · simp
                exact hgsm
              refine tri_region M hI hn (outs := ?_) (s' := ?_) ?_ ?_ ?_ ?_
              rotate_left 2
              · rfl
              · kernel_rfl
              · simp
                rw [hb1]
                omega
              change Tri _ _ _ _ _
              have hkc0 : ¬ u.cut = ((k : Nat) : Int) := by simp [] at hc; omega
              refine tri_conv (s' := pt3St (fwrite g ac ax (-1)) u L A k) (fun a w hg => (hg.reset (kT := [10, 12, 2, 3, 4, 5, 8, 9, 17]) (kO := [6011, 0, 1, 2, 3, 7000, 7001]) (by rfl) ?_).same ?_ ?_) ?_
              · simp only [All, and_true, List.append_nil, List.nil_append, List.cons_append]
                refine ⟨fun i _ => cold_app2 (fun _ => rfl) (fun j => ?_) i, fun i _ => cold_app2 (fun _ => rfl) (fun j => ?_) i⟩
                · rw [Nat.zero_add]; cases j <;> rfl
                · rw [Nat.zero_add]; cases j <;> rfl
              · exact .cons rfl (.cons rfl (.cons rfl (.cons rfl (.cons rfl (.cons rfl (.cons (congrArg (fun n => pv1 (.ow 7000 0 n 0 (k + 1))) hs1) (.cons (congrArg (fun n => pv1 (.ow 7001 0 n 0 (k + 1))) hs2) (.cons rfl .nil))))))))
              · refine .cons (.box rfl) (.cons (.box ?_) (.cons (.box rfl) (.cons (.box rfl) (.cons (.box rfl) (.cons (.arr rfl (fun i hi => ?_)) (.cons (.arr rfl (fun i hi => ?_)) .nil))))))
                · (rw [fsRow_fsF]; rfl)
                · rw [hnxk]
                  exact resF_snoc hlen _ rfl hi
                · rw [hAt]
                  exact accF_snoc hlenA _ rfl hi
              refine tri_reg M hI hn (outs := ?_) (s' := ?_) ?_ ?_ ?_ ?_
              rotate_left 2
              · rfl
              · kernel_rfl
              · simp
              refine tri_cond (b := ?_) ?_ (fun hc => ?_) (fun hc => ?_)
              rotate_left 1
              · rfl
              · refine tri_reg M hI hn (outs := ?_) (s' := ?_) ?_ ?_ ?_ ?_
                rotate_left 2
                · rfl
                · kernel_rfl
                · simp
                have hkc : u.cut = ((k : Nat) : Int) := by simp [] at hc; omega
                have est := (absurd hkc hkc0 : stepF (max 0 u.bytes) ⟨4, ab, ac, ax⟩ g = fwrite g ac ax (-1))
                rw [hcutk hkc]
                unfold putPV
                dsimp only
                rw [est, hlenA1]
                refine tri_ret (fun a w hg => ⟨.inr rfl, _, ?_, hg⟩)
                refine retTo_ex (out := ?_) ?_ ?_ ?_ ?_
                rotate_left 1
                · rfl
                · simp
                · rfl
                exact .tup (.cons (.agg (exL_refl rfl)) (.cons (.agg (exL_refl rfl)) (.cons (.one (.cold rfl)) (.cons (.one (.row rfl trivial (by omega) (fun j hj => by rw [Nat.zero_add]) (fun j hj => rfl))) .nil))))
              · refine tri_skip ?_
                change Tri _ _ _ _ _
                have hkc : ¬ u.cut = ((k : Nat) : Int) := by simp [] at hc; omega
                have esn := (show stepF (-1) ⟨4, ab, ac, ax⟩ g = fwrite g ac ax (-1) from if_neg four_ne)
                refine tri_region M hI hn (outs := ?_) (s' := ?_) ?_ ?_ ?_ ?_
                rotate_left 2
                · rfl
                · kernel_rfl
                · simp
                intro a w hg
                refine ⟨k + 1, _, by omega, by omega, ⟨rfl, by omega⟩, (hg.reset (kT := [2, 3, 4, 5, 8, 9, 17]) (kO := [0, 1, 2, 3, 7000, 7001]) (by rfl) (by simp; exact ⟨fun i _ x hx => resF_cold _ i x hx, fun i _ x hx => accF_cold _ i x hx⟩)).same ?_ ?_⟩
                · exact .cons rfl (.cons rfl (.cons rfl (.cons rfl (.cons rfl (.cons rfl (.cons (by rw [wrap_nat k (by omega)]) .nil))))))
                · exact .cons (.box (by rw [hfl, esn]; rfl)) (.cons (.box rfl) (.cons (.box rfl) (.cons (.box rfl) (.cons (.arr rfl (fun i _ => rfl)) (.cons (.arr rfl (fun i _ => rfl)) .nil)))))
          · cases hc
    · obtain rfl : k = A.length := by omega
      have hck2 : u.cut < 0 ∨ (A.length : Int) ≤ u.cut := hck
      rw [hall hck2]
      rw [List.take_of_length_le (by omega : L.length ≤ A.length), hPe]
      refine tri_seq ?_
      refine tri_reg M hI hn (outs := ?_) (s' := ?_) ?_ ?_ ?_ ?_
      rotate_left 2
      · rfl
      · kernel_rfl
      · simp
      refine tri_cond (b := ?_) ?_ (fun hc => ?_) (fun hc => ?_)
      rotate_left 1
      · rfl
      · refine tri_reg M hI hn (outs := ?_) (s' := ?_) ?_ ?_ ?_ ?_
        rotate_left 2
        · rfl
        · kernel_rfl
        · simp
        rw [List.take_of_length_le (Nat.le_refl A.length)]
        unfold putPV
        refine tri_ret (fun a w hg => ⟨.inr rfl, _, ?_, hg⟩)
        refine retTo_ex (out := ?_) ?_ ?_ ?_ ?_
        rotate_left 1
        · rfl
        · simp
        · rfl
        exact .tup (.cons (.agg (exL_refl rfl)) (.cons (.agg (exL_refl rfl)) (.cons (.one (.cold rfl)) (.cons (.one (.row rfl trivial (by omega) (fun j hj => by rw [Nat.zero_add, List.take_of_length_le (Nat.le_refl A.length)]) (fun j hj => rfl))) .nil))))
      · cases hc
  · exact absurd (of_decide_eq_false hc) (by omega)
end Go.Proofs.YtoefmncdloffaaaDoor.Pv


namespace Go.Proofs.YtoefmncdloffaaaDoor.Pv
open Go.RowKit
structure CurS where
  i : Int
  ask : Acc
  stop : Bool
def curStep (log : List Res) (a : Acc) (s : CurS) : Res × CurS :=
  if s.stop then (⟨0, noBytes⟩, s) else match log[s.i.toNat]? with
    | some r => (r, { s with i := s.i + 1 })
    | none => (⟨0, noBytes⟩, { s with stop := true, ask := a })
def curRun {α : Type} (log : List Res) : Prg α → CurS → α × CurS
  | .ret a, s => (a, s)
  | .ask c k, s => curRun log (k (curStep log c s).1) (curStep log c s).2
theorem curRun_bind {α β : Type} (log : List Res) (p : Prg α) (f : α → Prg β) : ∀ s, curRun log (p.bind f) s = curRun log (f (curRun log p s).1) (curRun log p s).2 := by
  induction p with
  | ret a => intro s; rfl
  | ask c k ih => intro s; exact ih _ _
def CurOk (log : List Res) (s : CurS) : Prop := 0 ≤ s.i ∧ s.i ≤ log.length ∧ log.length ≤ 1000000 ∧ ∀ r ∈ log, r.bytes.size ≤ 1000000
theorem curStep_le {log : List Res} (a : Acc) {s : CurS} (h : CurOk log s) : CurOk log (curStep log a s).2 := by
  unfold curStep
  split
  · exact h
  · split
    · rename_i r hr
      have := (List.getElem?_eq_some_iff.1 hr).1
      have := h.1
      exact ⟨by show 0 ≤ s.i + 1; omega, by show s.i + 1 ≤ _; omega, h.2.2⟩
    · exact h
theorem curRun_le {α : Type} {log : List Res} (p : Prg α) : ∀ {s : CurS}, CurOk log s → CurOk log (curRun log p s).2 := by
  induction p with
  | ret a => intro s h; exact h
  | ask c k ih => intro s h; exact ih _ (curStep_le _ h)
theorem curRun_stop {α : Type} (log : List Res) (p : Prg α) : ∀ s : CurS, s.stop = true → (curRun log p s).2 = s := by
  induction p with
  | ret a => intro s h; rfl
  | ask c k ih =>
    intro s h
    have e : curStep log c s = (⟨0, noBytes⟩, s) := if_pos h
    rw [curRun, e]
    exact ih _ _ h
theorem curRun_all {α : Type} {R : α → Prop} {p : Prg α} (h : Prg.All R p) (log : List Res) : ∀ s, R (curRun log p s).1 := by
  induction p with
  | ret a => intro s; exact h
  | ask c k ih => intro s; exact ih _ (h _) _
def curP (c : PC) (s : CurS) (z : List UInt8) : List PC := [c, .lit (.int .i64 s.i), .lit (.int .i64 s.ask.kind), .lit (.int .i64 s.ask.bank), .lit (.int .i64 s.ask.cell), .lit (.string s.ask.bytes), .lit (.bool s.stop), .lit (.bool false), .lit (.slice none 0 0), .lit (.slice none 0 0), .bs 16 z, .lit (.slice none 0 0), .lit (.bool false)]
def logP (log : List Res) : PC := .sl 2 log.length (resF log)
def curOf : List PC → Option (Prop × List Res × CurS × PC × List UInt8)
  | [.sl 2 n f, .lit (.int .i64 i), .lit (.int .i64 ak), .lit (.int .i64 ab), .lit (.int .i64 ac), .lit (.string ax), .lit (.bool st), .lit (.bool false), .lit (.slice none 0 0), .lit (.slice none 0 0), .bs 16 z, .lit (.slice none 0 0), .lit (.bool false)] =>
    some (IsResRow n f, rowRes n f, ⟨i, ⟨ak, ab, ac, ax⟩, st⟩, .sl 2 n f, z)
  | _ => none
abbrev CurF := List Res → CurS → CurS × PV
def curG (dec : List PV → Option (Prop × CurF)) : List PC → List PV → Option (Prop × List PC × PV) := fun l ys => match curOf l, dec ys with
  | some (p, log, s, c, z), some (q, F) => some ((p ∧ CurOk log s) ∧ q, curP c (F log s).1 z, (F log s).2)
  | _, _ => none
def FunC (f : Nat) (ys : List PV) (F : CurF) : Prop := ∀ n fr s z, IsResRow n fr → CurOk (rowRes n fr) s → FunX Tryd.prog ShaMem f false [⟨px, 130, curP (.sl 2 n fr) s z, curP (.sl 2 n fr) (F (rowRes n fr) s).1 z⟩] (fun _ => none) none (fun _ => False) (.w (.one (.pt px 0 0)) :: ys) (F (rowRes n fr) s).2
theorem FunX.conv {P : Program} {I : World → Prop} {f : Nat} {new : Bool} {x : Nat} {t : TypeId} {l l1 l' l1' : List PC} {O : List Acc → Option Res} {dev : Option (List Acc × List Acc)} {stp : List Acc → Prop} {args : List PV} {res : PV} (h : FunX P I f new [⟨x, t, l1, l1'⟩] O dev stp args res)
    (hl : ∀ C xs, RL C l xs → RL C l1 xs) (hl' : ∀ C xs, RL C l1' xs → RL C l' xs) : FunX P I f new [⟨x, t, l, l'⟩] O dev stp args res := by
  intro w ok0 vs bl D X0 hM hold hst hpW hO hdv hnd hob hinj hv
  have hS : ∀ b, SX [⟨x, t, l, l'⟩] bl D b ↔ SX [⟨x, t, l1, l1'⟩] bl D b := fun b => by
    constructor <;> rintro (h | ⟨o, ho, rfl⟩)
    · exact .inl h
    · obtain rfl := List.mem_singleton.1 ho
      exact .inr ⟨_, List.mem_singleton_self _, rfl⟩
    · exact .inl h
    · obtain rfl := List.mem_singleton.1 ho
      exact .inr ⟨_, List.mem_singleton_self _, rfl⟩
  refine (h w ok0 vs bl D X0 (fun w' hc => hM w' (hc.mono fun b _ hb => (hS b).2 hb)) (fun b hb => hold b ((hS b).2 hb)) hst hpW hO hdv hnd (fun o ho => ?_) (fun o ho o' ho' _ => ?_) hv).mono ?_
  · obtain rfl := List.mem_singleton.1 ho
    obtain ⟨h1, cs, h2, h3⟩ := hob _ (List.mem_singleton_self _)
    exact ⟨h1, cs, h2, hl _ _ h3⟩
  · obtain rfl := List.mem_singleton.1 ho
    obtain rfl := List.mem_singleton.1 ho'
    rfl
  · rintro e w' ⟨h1, h2⟩
    refine ⟨h1.mono fun b _ hb => (hS b).2 hb, ?_⟩
    rcases h2 with ⟨val, rfl, h3, h4, h5⟩ | h2
    · refine .inl ⟨val, rfl, h3, fun o ho => ?_, h5⟩
      obtain rfl := List.mem_singleton.1 ho
      obtain ⟨cs, h6, h7⟩ := h4 _ (List.mem_singleton_self _)
      exact ⟨cs, h6, hl' _ _ h7⟩
    · exact .inr h2
theorem sl_conv {C : Ctx} {n len : Nat} {f g : Nat → List PC} (h : ∀ i, i < len → f i = g i) {xs : List Value} (hr : R C (.sl n len f) xs) : R C (.sl n len g) xs := by
  cases hr with
  | sl h1 h2 h3 => exact .sl h1 h2 (fun i hi => by rw [← h i hi]; exact h3 i hi)
theorem RL.headL {C : Ctx} {c c' : PC} {l : List PC} (h : ∀ ys, R C c ys → R C c' ys) {xs : List Value} (hr : RL C (c :: l) xs) : RL C (c' :: l) xs := by
  cases hr with
  | cons h1 h2 => exact .cons (h _ h1) h2
theorem curSpec_ok {f : Nat} {dec : List PV → Option (Prop × CurF)} (hent : ∀ args w, (callFunc f args).run Tryd.prog w = .ok (.enter f args) w)
    (hg : ∀ ys q F, dec ys = some (q, F) → q → FunC f ys F) : SpecOk Tryd.prog ShaMem f (ptSpec 130 (curG dec)) := by
  refine ptSpec_ok hent (fun l ys p l' r hq hp => ?_)
  unfold curG at hq
  cases hc : curOf l with
  | none => rw [hc] at hq; cases hq
  | some q =>
    cases hd : dec ys with
    | none => rw [hc, hd] at hq; cases hq
    | some d =>
      obtain ⟨q1, F⟩ := d
      obtain ⟨p1, log, s, c, z⟩ := q
      rw [hc, hd] at hq
      cases hq
      obtain ⟨⟨hp1, hok⟩, hq1⟩ := hp
      unfold curOf at hc
      split at hc
      · rename_i n f i ak ab ac ax st z
        cases hc
        exact hg ys _ F hd hq1 n f _ z hp1 hok
      · cases hc
def decDo : List PV → Option (Prop × CurF)
  | [.w (.agg [.lit (.int .i64 k), .lit (.int .i64 b), .lit (.int .i64 c), .lit (.string x)])] => some (True, fun log s => ((curStep log ⟨k, b, c, x⟩ s).2, .w (.agg (resPC (curStep log ⟨k, b, c, x⟩ s).1))))
  | _ => none
theorem do_idle (log : List Res) (a : Acc) {s : CurS} (h : s.stop = true) : curStep log a s = (⟨0, noBytes⟩, s) := if_pos h
theorem do_some {log : List Res} (a : Acc) {s : CurS} (h : s.stop = false) {r : Res} (hr : log[s.i.toNat]? = some r) : curStep log a s = (r, { s with i := s.i + 1 }) := by unfold curStep; rw [h, hr]; rfl
theorem do_none {log : List Res} (a : Acc) {s : CurS} (h : s.stop = false) (hr : log[s.i.toNat]? = none) : curStep log a s = (⟨0, noBytes⟩, { s with stop := true, ask := a }) := by unfold curStep; rw [h, hr]; rfl
set_option maxRecDepth 100000 in
theorem do_funL (a : Acc) (log : List Res) (s : CurS) (z : List UInt8) (hok : CurOk log s) : FunX Tryd.prog ShaMem 155 false [⟨px, 130, curP (logP log) s z, curP (logP log) (curStep log a s).2 z⟩] (fun _ => none) none (fun _ => False) [.w (.one (.pt px 0 0)), .w (.agg (accPC a))] (.w (.agg (resPC (curStep log a s).1))) := by
  have M : Mach Tryd.prog ShaMem (find []) := ⟨specs_of (fun p hp => by cases hp), mixed_⟩
  refine funX_of Tryd.func155 rfl rfl rfl (fun A hn hI => ?_)
  obtain ⟨i, ask, st⟩ := s
  obtain ⟨h0, h1, h2, _⟩ := hok
  dsimp only at h0 h1 ⊢
  cases st with
  | true =>
    rw [do_idle log a (s := ⟨i, ask, true⟩) rfl]
    refine tri_reg M hI hn (outs := ?_) (s' := ?_) ?_ ?_ ?_ ?_
    rotate_left 2
    · rfl
    · kernel_rfl
    · simp
    refine tri_seq ?_
    refine tri_reg M hI hn (outs := ?_) (s' := ?_) ?_ ?_ ?_ ?_
    rotate_left 2
    · rfl
    · kernel_rfl
    · simp
    refine tri_cond (b := ?_) ?_ (fun hc => ?_) (fun hc => ?_)
    rotate_left 1
    · rfl
    · refine tri_reg M hI hn (outs := ?_) (s' := ?_) ?_ ?_ ?_ ?_
      rotate_left 2
      · rfl
      · kernel_rfl
      · simp
      refine tri_ret (fun a w hg => ⟨.inr rfl, _, ⟨?_, (fun o ho => by obtain rfl := List.mem_singleton.1 ho; exact ⟨_, rfl, exL_refl rfl⟩), fun p hp => (by cases hp)⟩, hg⟩)
      refine retTo_cold (out := ?_) ?_ ?_ ?_ ?_ ?_
      rotate_left 1
      · rfl
      · simp
      · rfl
      · rfl
      rfl
    · cases hc
  | false =>
    refine tri_reg M hI hn (outs := ?_) (s' := ?_) ?_ ?_ ?_ ?_
    rotate_left 2
    · rfl
    · kernel_rfl
    · simp
    refine tri_seq ?_
    refine tri_reg M hI hn (outs := ?_) (s' := ?_) ?_ ?_ ?_ ?_
    rotate_left 2
    · rfl
    · kernel_rfl
    · simp
    refine tri_cond (b := ?_) ?_ (fun hc => ?_) (fun hc => ?_)
    rotate_left 1
    · rfl
    · cases hc
    refine tri_skip ?_
    change Tri _ _ _ _ _
    refine tri_seq ?_
    refine tri_reg M hI hn (outs := ?_) (s' := ?_) ?_ ?_ ?_ ?_
    rotate_left 2
    · rfl
    · kernel_rfl
    · simp
    refine tri_cond (b := ?_) ?_ (fun hc => ?_) (fun hc => ?_)
    rotate_left 1
    · rfl
    · cases hc
    refine tri_skip ?_
    change Tri _ _ _ _ _
    refine tri_seq ?_
    refine tri_reg M hI hn (outs := ?_) (s' := ?_) ?_ ?_ ?_ ?_
    rotate_left 2
    · rfl
    · kernel_rfl
    · simp
    refine tri_cond (b := ?_) ?_ (fun hc => ?_) (fun hc => ?_)
    rotate_left 1
    · rfl
    · refine tri_reg M hI hn (outs := ?_) (s' := ?_) ?_ ?_ ?_ ?_
      rotate_left 2
      · rfl
      · kernel_rfl
      · simp
      refine tri_reg M hI hn (outs := ?_) (s' := ?_) ?_ ?_ ?_ ?_
      rotate_left 2
      · rfl
      · kernel_rfl
      · simp
      refine tri_reg M hI hn (outs := ?_) (s' := ?_) ?_ ?_ ?_ ?_
      rotate_left 2
      · rfl
      · kernel_rfl
      · simp
      have hge : (log.length : Int) ≤ i := by have := of_decide_eq_true hc; exact this
      rw [do_none a (s := ⟨i, ask, false⟩) rfl (List.getElem?_eq_none (by show log.length ≤ i.toNat; omega))]
      refine tri_ret (fun a w hg => ⟨.inr rfl, _, ⟨?_, (fun o ho => by obtain rfl := List.mem_singleton.1 ho; exact ⟨_, rfl, exL_refl rfl⟩), fun p hp => (by cases hp)⟩, hg⟩)
      refine retTo_cold (out := ?_) ?_ ?_ ?_ ?_ ?_
      rotate_left 1
      · rfl
      · simp
      · rfl
      · rfl
      rfl
    · refine tri_skip ?_
      change Tri _ _ _ _ _
      refine tri_reg M hI hn (outs := ?_) (s' := ?_) ?_ ?_ ?_ ?_
      rotate_left 2
      · rfl
      · kernel_rfl
      · simp
      have hlt : i < (log.length : Int) := by have := of_decide_eq_false hc; simpa using this
      have hw1 : IntKind.i64.wrap (i + 1) = i + 1 := wrap_i64_id (by omega) (by omega)
      have hw2 : IntKind.i64.wrap (i + 1 - 1) = i := (wrap_i64_id (by omega) (by omega)).trans (by omega)
      refine tri_reg M hI hn (outs := ?_) (s' := ?_) ?_ ?_ ?_ ?_
      rotate_left 2
      · rfl
      · kernel_rfl
      · simp
        rw [hw1, hw2]
        omega
      have hr : log[i.toNat]? = some (log.getD i.toNat ⟨0, noBytes⟩) := by rw [List.getD_eq_getElem?_getD, List.getElem?_eq_getElem (by omega)]; rfl
      rw [do_some a (s := ⟨i, ask, false⟩) rfl hr]
      refine tri_conv (s' := ⟨[(4, none, pv1 (.pt 1 0 0))], [(px, none, 0, .box 130 (curP (logP log) ⟨i + 1, ask, false⟩ z)), (1, none, 0, .box 118 (resPC (log.getD i.toNat ⟨0, noBytes⟩)))]⟩) (fun a w hg => (hg.reset (kT := [4]) (kO := [px, 1]) (by rfl) (by simp)).same ?_ ?_) ?_
      · exact .cons rfl .nil
      · refine .cons (.box ?_) (.cons (.box ?_) .nil)
        · show curP (logP log) ⟨IntKind.i64.wrap (i + 1), ask, false⟩ z = _
          rw [hw1]
        · show [PC.lit (.int .i64 (log.getD (IntKind.i64.wrap (IntKind.i64.wrap (i + 1) - 1)).toNat ⟨0, noBytes⟩).val), PC.lit (.string (log.getD (IntKind.i64.wrap (IntKind.i64.wrap (i + 1) - 1)).toNat ⟨0, noBytes⟩).bytes)] = _
          rw [hw1, hw2]
          rfl
      refine tri_ret (fun a w hg => ⟨.inr rfl, _, ⟨?_, (fun o ho => by obtain rfl := List.mem_singleton.1 ho; exact ⟨_, rfl, exL_refl rfl⟩), fun p hp => (by cases hp)⟩, hg⟩)
      refine retTo_cold (out := ?_) ?_ ?_ ?_ ?_ ?_
      rotate_left 1
      · rfl
      · simp
      · rfl
      · rfl
      rfl
theorem do_fun (a : Acc) : FunC 155 [.w (.agg (accPC a))] (fun log s => ((curStep log a s).2, .w (.agg (resPC (curStep log a s).1)))) := by
  intro n f s z hp hok
  have hrow := resF_row hp
  have hlen := rowRes_length n f
  have hcv : ∀ C ys, R C (.sl 2 n f) ys → R C (logP (rowRes n f)) ys := fun C ys h => by
    unfold logP
    rw [hlen]
    exact sl_conv hrow h
  have hcv' : ∀ C ys, R C (logP (rowRes n f)) ys → R C (.sl 2 n f) ys := fun C ys h => by
    unfold logP at h
    rw [hlen] at h
    exact sl_conv (fun i hi => (hrow i hi).symm) h
  exact (do_funL a (rowRes n f) s z hok).conv (fun C xs h => h.headL (hcv C)) (fun C xs h => h.headL (hcv' C))
end Go.Proofs.YtoefmncdloffaaaDoor.Pv


namespace Go.Proofs.YtoefmncdloffaaaDoor.Pv
open Go.RowKit
theorem do_spec : SpecOk Tryd.prog ShaMem 155 (ptSpec 130 (curG decDo)) :=
  curSpec_ok (call_enters Tryd.func155 (by kernel_rfl) rfl) (fun ys q F h hq => by
    unfold decDo at h
    split at h
    · cases h; exact do_fun ⟨_, _, _, _⟩
    · cases h)
def cuL1 : List (Nat × Spec) := [(155, ptSpec 130 (curG decDo))]
theorem cu1M : Mach Tryd.prog ShaMem (find cuL1) := ⟨specs_of (fun p hp => by
  obtain rfl := List.mem_singleton.1 hp
  exact do_spec), mixed_⟩
set_option maxRecDepth 100000 in
theorem cread_fun (c : Int) : FunC 168 [pvI c] (fun log s => ((curRun log (Prg.rd c) s).2, strV (curRun log (Prg.rd c) s).1)) := by
  intro n fr s z hrow hok
  have M := cu1M
  refine funX_of Tryd.func168 rfl rfl rfl (fun A hn hI => ?_)
  refine tri_reg M hI hn (outs := ?_) (s' := ?_) ?_ ?_ ?_ ?_
  rotate_left 2
  · rfl
  · kernel_rfl
  · simp
  refine tri_reg M hI hn (outs := ?_) (s' := ?_) ?_ ?_ ?_ ?_
  rotate_left 2
  · rfl
  · kernel_rfl
  · simp
    exact ⟨hrow, hok⟩
  refine tri_reg M hI hn (outs := ?_) (s' := ?_) ?_ ?_ ?_ ?_
  rotate_left 2
  · rfl
  · kernel_rfl
  · simp
  refine tri_ret (fun a w hg => ⟨.inr rfl, _, ⟨?_, (fun o ho => by obtain rfl := List.mem_singleton.1 ho; exact ⟨_, rfl, exL_refl rfl⟩), fun p hp => (by cases hp)⟩, hg⟩)
  refine retTo_cold (out := ?_) ?_ ?_ ?_ ?_ ?_
  rotate_left 1
  · rfl
  · simp
  · rfl
  · rfl
  rfl
set_option maxRecDepth 100000 in
theorem cwrite_fun (c : Int) (b : ByteArray) : FunC 125 [pvI c, strV b] (fun log s => ((curRun log (Prg.wr c b) s).2, .tup [])) := by
  intro n fr s z hrow hok
  have M := cu1M
  refine funX_of Tryd.func125 rfl rfl rfl (fun A hn hI => ?_)
  refine tri_region M hI hn (outs := ?_) (s' := ?_) ?_ ?_ ?_ ?_
  rotate_left 2
  · rfl
  · kernel_rfl
  · simp
    exact ⟨hrow, hok⟩
  intro a w hg
  refine ⟨.inl rfl, _, ⟨?_, (fun o ho => by obtain rfl := List.mem_singleton.1 ho; exact ⟨_, rfl, exL_refl rfl⟩), fun p hp => (by cases hp)⟩, hg⟩
  refine retTo_cold (out := ?_) ?_ ?_ ?_ ?_ ?_
  rotate_left 1
  · rfl
  · simp
  · rfl
  · rfl
  rfl
def decRdC : List PV → Option (Prop × CurF)
  | [.w (.one (.lit (.int .i64 c)))] => some (True, fun log s => ((curRun log (Prg.rd c) s).2, strV (curRun log (Prg.rd c) s).1))
  | _ => none
def decWrC : List PV → Option (Prop × CurF)
  | [.w (.one (.lit (.int .i64 c))), .w (.one (.lit (.string b)))] => some (True, fun log s => ((curRun log (Prg.wr c b) s).2, .tup []))
  | _ => none
theorem cread_spec : SpecOk Tryd.prog ShaMem 168 (ptSpec 130 (curG decRdC)) :=
  curSpec_ok (call_enters Tryd.func168 (by kernel_rfl) rfl) (fun ys q F h hq => by
    unfold decRdC at h
    split at h
    · cases h; exact cread_fun _
    · cases h)
theorem cwrite_spec : SpecOk Tryd.prog ShaMem 125 (ptSpec 130 (curG decWrC)) :=
  curSpec_ok (call_enters Tryd.func125 (by kernel_rfl) rfl) (fun ys q F h hq => by
    unfold decWrC at h
    split at h
    · cases h; exact cwrite_fun _ _
    · cases h)
theorem sector_ok : SpecOk Tryd.prog ShaMem 126 spSect := by
  refine funSpec_ok (call_enters Tryd.func126 (by kernel_rfl) rfl) (fun xs p r hg hp => ?_)
  unfold secG at hg
  split at hg
  · rename_i v k
    cases hq : asRow v with
    | none => rw [hq] at hg; cases hg
    | some q =>
      obtain ⟨p0, l⟩ := q
      rw [hq] at hg
      cases hg
      obtain ⟨hp0, h0, h1, h2⟩ := hp
      obtain ⟨n, rfl⟩ : ∃ n : Nat, k = (n : Int) := ⟨k.toNat, by omega⟩
      rw [Int.toNat_natCast]
      exact (sector_fun l n (by omega) h2).args fun C vs hv => by
        match vs, hv with
        | [x0, x], ⟨h0, h1, _⟩ => exact ⟨asRow_ok hq hp0 h0, h1, trivial⟩
  · cases hg
theorem rdec_ok : SpecOk Tryd.prog ShaMem 153 spRDec := by
  refine funSpec_ok (call_enters Tryd.func153 (by kernel_rfl) rfl) (fun xs p r hg hp => ?_)
  split at hg
  · rename_i rec v
    cases hq : asRow v with
    | none => rw [hq] at hg; cases hg
    | some q =>
      obtain ⟨p0, l⟩ := q
      rw [hq] at hg
      cases hg
      exact (rdecode_fun rec l hp.2.1 hp.2.2).args fun C vs hv => by
        match vs, hv with
        | [x0, x], ⟨h0, h1, _⟩ => exact ⟨h0, asRow_ok hq hp.1 h1, trivial⟩
  · cases hg
def cuL2 : List (Nat × Spec) := (168, ptSpec 130 (curG decRdC)) :: (125, ptSpec 130 (curG decWrC)) :: (126, spSect) :: (153, spRDec) :: rfL1
theorem cu2_ok : ∀ p ∈ cuL2, SpecOk Tryd.prog ShaMem p.1 p.2 := by
  intro p hp
  simp only [cuL2, List.mem_cons] at hp
  rcases hp with rfl | rfl | rfl | rfl | hp
  · exact cread_spec
  · exact cwrite_spec
  · exact sector_ok
  · exact rdec_ok
  · exact rf1_ok p hp
theorem cu2M : Mach Tryd.prog ShaMem (find cuL2) := ⟨specs_of cu2_ok, mixed_⟩
theorem step_short {log : List Res} {a : Acc} {s : CurS} (h : CurOk log s) : (curStep log a s).1.bytes.size ≤ 1000000 := by
  unfold curStep
  split
  · exact (by decide : (0 : Nat) ≤ 1000000)
  · split
    · rename_i r hr
      exact h.2.2.2 r (List.mem_of_getElem? hr)
    · exact (by decide : (0 : Nat) ≤ 1000000)
theorem rd_short {log : List Res} {c : Int} {s : CurS} (h : CurOk log s) : (curRun log (Prg.rd c) s).1.size ≤ 1000000 := step_short h
theorem sects_short {log : List Res} (F : Int) : ∀ (n : Nat) (b : List UInt8) {s : CurS}, CurOk log s → (curRun log (Prg.sects F n b) s).1.length ≤ b.length + n * 1000000
  | 0, b, s, h => by show b.length ≤ _; omega
  | n + 1, b, s, h => by
    rw [Prg.sects, curRun_bind]
    have h1 := rd_short (c := F + ((7 - n : Nat) : Int)) h
    have h2 := sects_short F n (b ++ (curRun log (Prg.rd (F + ((7 - n : Nat) : Int))) s).1.data.toList) (curRun_le (Prg.rd (F + ((7 - n : Nat) : Int))) h)
    have h3 : (curRun log (Prg.rd (F + ((7 - n : Nat) : Int))) s).1.data.toList.length ≤ 1000000 := by rw [Array.length_toList]; exact h1
    rw [List.length_append] at h2
    omega
def arO (n : Nat) (fr : Nat → List PC) (z : List UInt8) (s : CurS) (b : List UInt8) : Wr := [(px, none, 0, .box 130 (curP (.sl 2 n fr) s z)), (7000, none, 0, .arr 5 1 b.length (byF b))]
def arSt (n : Nat) (fr : Nat → List PC) (z : List UInt8) (rec k : Int) (s : CurS) (b : List UInt8) (i : Nat) : St := ⟨[(0, none, pv1 (.pt px 0 0)), (1, none, pvI rec), (2, none, pvI k), (7, none, pv1 (.ow 7000 0 1 0 b.length)), (8, none, pvI (i : Int))], arO n fr z s b⟩
theorem sectsC_step {F : Int} {i : Nat} (hi : i < 8) (b : List UInt8) (log : List Res) (s : CurS) : curRun log (Prg.sects F (8 - i) b) s = curRun log (Prg.sects F (8 - (i + 1)) (b ++ (curRun log (Prg.rd (F + i)) s).1.data.toList)) (curRun log (Prg.rd (F + i)) s).2 := by
  have e : 8 - i = (7 - i) + 1 := by omega
  rw [e, Prg.sects, curRun_bind, show 7 - (7 - i) = i from by omega, show 8 - (i + 1) = 7 - i from by omega]
set_option maxRecDepth 100000 in
set_option maxHeartbeats 1000000 in
theorem area_fun (rec k : Int) : FunC 152 [pvI rec, pvI k] (fun log s => ((curRun log (Prg.sects (firstS rec k) 8 []) s).2, rowV (curRun log (Prg.sects (firstS rec k) 8 []) s).1)) := by
  intro n fr s0 z hrow hok0
  have M := cu2M
  have hb1 : Tryd.prog.types[5].bytes = 1 := by kernel_rfl
  refine funX_of Tryd.func152 rfl rfl rfl (fun A hn hI => ?_)
  dsimp only
  generalize hR : curRun (rowRes n fr) (Prg.sects (firstS rec k) 8 []) s0 = R
  refine tri_reg M hI hn (outs := ?_) (s' := ?_) ?_ ?_ ?_ ?_
  rotate_left 2
  · rfl
  · kernel_rfl
  · simp
  refine tri_reg M hI hn (outs := ?_) (s' := ?_) ?_ ?_ ?_ ?_
  rotate_left 2
  · rfl
  · kernel_rfl
  · simp
  refine tri_seq ?_
  refine tri_reg M hI hn (outs := ?_) (s' := ?_) ?_ ?_ ?_ ?_
  rotate_left 2
  · rfl
  · kernel_rfl
  · simp
  refine tri_conv (s' := arSt n fr z rec k s0 [] 0) (fun a w hg => ((hg.nilRow (x := 7000) (e := 5) (n := 1) (t := 7) (by rfl) (by rfl)).reset (kT := [0, 1, 2, 7, 8]) (kO := [px, 7000]) (by rfl) (by simp)).same ?_ ?_) ?_
  · exact .cons rfl (.cons rfl (.cons rfl (.cons rfl (.cons rfl .nil))))
  · exact .cons (.box rfl) (.cons (.arr rfl (fun i hi => absurd hi (by simp))) .nil)
  refine tri_block ?_
  refine tri_loop 8 (fun i t => ∃ s b, t = arSt n fr z rec k s b i ∧ CurOk (rowRes n fr) s ∧ b.length ≤ i * 1000000 ∧ curRun (rowRes n fr) (Prg.sects (firstS rec k) (8 - i) b) s = R) 0 ⟨_, _, rfl, hok0, by simp, hR⟩ (by omega) (fun i t hJ hi => ?_)
  obtain ⟨s, b, rfl, hok, hb, hJ⟩ := hJ
  refine tri_seq ?_
  refine tri_reg M hI hn (outs := ?_) (s' := ?_) ?_ ?_ ?_ ?_
  rotate_left 2
  · rfl
  · kernel_rfl
  · simp
  refine tri_cond (b := ?_) ?_ (fun hc => ?_) (fun hc => ?_)
  rotate_left 1
  · rfl
  · have hi2 : i < 8 := by have := of_decide_eq_true hc; omega
    refine tri_skip ?_
    change Tri _ _ _ _ _
    refine tri_seq ?_
    refine tri_block ?_
    have hix : IntKind.i64.wrap (firstS rec k + (i : Int)) = firstS rec k + (i : Int) := by have := firstS_bnd rec k; exact wrap_i64_id (by omega) (by omega)
    refine tri_reg M hI hn (outs := ?_) (s' := ?_) ?_ ?_ ?_ ?_
    rotate_left 2
    · rfl
    · kernel_rfl
    · simp
      exact ⟨hrow, hok⟩
    have hs := rd_short (c := firstS rec k + (i : Int)) hok
    have hok2 := curRun_le (Prg.rd (firstS rec k + (i : Int))) hok
    rw [sectsC_step hi2] at hJ
    refine tri_region M hI hn (outs := ?_) (s' := ?_) ?_ ?_ ?_ ?_
    rotate_left 2
    · rfl
    · kernel_rfl
    · simp
      change ((curRun (rowRes n fr) (Prg.rd (IntKind.i64.wrap (firstS rec k + (i : Int)))) s).1).size ≤ _ ∧ (b.length + ((curRun (rowRes n fr) (Prg.rd (IntKind.i64.wrap (firstS rec k + (i : Int)))) s).1).size) * _ ≤ _
      rw [hix, hb1]
      omega
    change Tri _ _ _ _ _
    refine tri_region M hI hn (outs := ?_) (s' := ?_) ?_ ?_ ?_ ?_
    rotate_left 2
    · rfl
    · kernel_rfl
    · simp
    intro a w hg
    refine ⟨i + 1, _, by omega, by omega, ⟨_, _, rfl, hok2, ?_, hJ⟩, (hg.reset (kT := [0, 1, 2, 7, 8]) (kO := [px, 7000]) (by rfl) ?_).same ?_ ?_⟩
    · rw [List.length_append, Array.length_toList]; change b.length + ((curRun (rowRes n fr) (Prg.rd (firstS rec k + (i : Int))) s).1).size ≤ _; omega
    · simp only [All, and_true, List.append_nil, List.nil_append]
      exact fun i _ => cold_app2 (fun _ => rfl) (fun _ => rfl) i
    · refine .cons rfl (.cons rfl (.cons rfl (.cons ?_ (.cons (by rw [wrap_nat i (by omega)]) .nil))))
      change pv1 (.ow 7000 0 Tryd.prog.types[5].size 0 (b.length + ((curRun (rowRes n fr) (Prg.rd (IntKind.i64.wrap (firstS rec k + (i : Int)))) s).1).size)) = _
      rw [hix, List.length_append, Array.length_toList]
      rfl
    · refine .cons (.box ?_) (.cons (.arr ?_ (fun j hj => ?_)) .nil)
      · show curP (.sl 2 n fr) (curRun (rowRes n fr) (Prg.rd (IntKind.i64.wrap (firstS rec k + (i : Int)))) s).2 z = _
        rw [hix]
      · change b.length + ((curRun (rowRes n fr) (Prg.rd (IntKind.i64.wrap (firstS rec k + (i : Int)))) s).1).size = _
        rw [hix, List.length_append, Array.length_toList]
        rfl
      · change appF b.length (byF b) (byF ((curRun (rowRes n fr) (Prg.rd (IntKind.i64.wrap (firstS rec k + (i : Int)))) s).1).data.toList) j = _
        rw [hix]
        exact congrFun (byF_app2 b _) j
  · have hi2 : i = 8 := by have := of_decide_eq_false hc; omega
    subst hi2
    have hE : (b, s) = R := hJ
    refine tri_exit ?_
    change Tri _ _ _ _ _
    refine tri_reg M hI hn (outs := ?_) (s' := ?_) ?_ ?_ ?_ ?_
    rotate_left 2
    · rfl
    · kernel_rfl
    · simp
    rw [← hE]
    refine tri_ret (fun a w hg => ⟨.inr rfl, _, ⟨?_, (fun o ho => by obtain rfl := List.mem_singleton.1 ho; exact ⟨_, rfl, exL_refl rfl⟩), fun p hp => (by cases hp)⟩, hg⟩)
    refine retTo_ex (out := ?_) ?_ ?_ ?_ ?_
    rotate_left 1
    · rfl
    · simp
    · rfl
    exact .w (.one (.row rfl trivial (by omega) (fun i _ => by rw [Nat.zero_add]) (fun i _ => rfl)))
end Go.Proofs.YtoefmncdloffaaaDoor.Pv


namespace Go.Proofs.YtoefmncdloffaaaDoor.Pv
open Go.RowKit
def decAr : List PV → Option (Prop × CurF)
  | [.w (.one (.lit (.int .i64 rec))), .w (.one (.lit (.int .i64 k)))] => some (True, fun log s => ((curRun log (Prg.sects (firstS rec k) 8 []) s).2, rowV (curRun log (Prg.sects (firstS rec k) 8 []) s).1))
  | _ => none
theorem area_spec : SpecOk Tryd.prog ShaMem 152 (ptSpec 130 (curG decAr)) :=
  curSpec_ok (call_enters Tryd.func152 (by kernel_rfl) rfl) (fun ys q F h hq => by
    unfold decAr at h
    split at h
    · cases h; exact area_fun _ _
    · cases h)
def cuL3 : List (Nat × Spec) := (152, ptSpec 130 (curG decAr)) :: cuL2
theorem cu3_ok : ∀ p ∈ cuL3, SpecOk Tryd.prog ShaMem p.1 p.2 := by
  intro p hp
  rcases List.mem_cons.1 hp with rfl | hp
  · exact area_spec
  · exact cu2_ok p hp
theorem cu3M : Mach Tryd.prog ShaMem (find cuL3) := ⟨specs_of cu3_ok, mixed_⟩
def cuPV (n : Int) (seq : Int) (c : ByteArray) : PV := .tup [.one (.lit (.int .i64 n)), .one (.lit (.int .i64 seq)), .one (.lit (.string c))]
def cuV (x : ((Int × List UInt8) × Nat) × CurS) : Int × Int × ByteArray := if x.2.stop then (0, 0, noBytes) else ((x.1.2 : Int), x.1.1.1, strOf x.1.1.2)
def cuR (x : ((Int × List UInt8) × Nat) × CurS) : PV := cuPV (cuV x).1 (cuV x).2.1 (cuV x).2.2
set_option maxRecDepth 100000 in
set_option maxHeartbeats 1000000 in
theorem current_fun (rec : Int) (hr : i64P rec) : FunC 121 [pvI rec] (fun log s => ((curRun log (Prg.cur rec) s).2, cuR (curRun log (Prg.cur rec) s))) := by
  intro n fr s z hrow hok
  have M := cu3M
  refine funX_of Tryd.func121 rfl rfl rfl (fun A hn hI => ?_)
  obtain ⟨R, hR⟩ : ∃ R, curRun (rowRes n fr) (Prg.cur rec) s = R := ⟨_, rfl⟩
  dsimp only
  rw [hR]
  obtain ⟨a, s1, h1⟩ : ∃ a s1, curRun (rowRes n fr) (Prg.sects (firstS rec 0) 8 []) s = (a, s1) := ⟨_, _, rfl⟩
  obtain ⟨b, s2, h2⟩ : ∃ b s2, curRun (rowRes n fr) (Prg.sects (firstS rec 1) 8 []) s1 = (b, s2) := ⟨_, _, rfl⟩
  have hok1 : CurOk (rowRes n fr) s1 := by have := curRun_le (Prg.sects (firstS rec 0) 8 []) hok; rw [h1] at this; exact this
  have hla : a.length ≤ 8000000 := by have := sects_short (firstS rec 0) 8 [] hok; rw [h1] at this; simpa using this
  have hlb : b.length ≤ 8000000 := by have := sects_short (firstS rec 1) 8 [] hok1; rw [h2] at this; simpa using this
  have hE : R = (curS (decS rec a) (decS rec b), s2) := by
    rw [← hR]
    unfold Prg.cur
    rw [curRun_bind, h1, curRun_bind, h2]
    rfl
  rw [hE]
  clear hE hR R
  refine tri_reg M hI hn (outs := ?_) (s' := ?_) ?_ ?_ ?_ ?_
  rotate_left 2
  · rfl
  · kernel_rfl
  · simp
  refine tri_reg M hI hn (outs := ?_) (s' := ?_) ?_ ?_ ?_ ?_
  rotate_left 2
  · rfl
  · kernel_rfl
  · simp
    exact ⟨hrow, hok⟩
  refine tri_conv (s' := ⟨[(0, none, pv1 (.pt px 0 0)), (1, none, pvI rec), (7, none, rowV a)], [(px, none, 0, .box 130 (curP (.sl 2 n fr) s1 z))]⟩) (fun a w hg => (hg.reset (kT := [0, 1, 7]) (kO := [px]) (by rfl) (by simp)).same ?_ ?_) ?_
  · refine .cons rfl (.cons rfl (.cons ?_ .nil))
    change rowV (curRun (rowRes n fr) (Prg.sects (firstS rec 0) 8 []) s).1 = _
    rw [h1]
  · refine .cons (.box ?_) .nil
    change curP (.sl 2 n fr) (curRun (rowRes n fr) (Prg.sects (firstS rec 0) 8 []) s).2 z = _
    rw [h1]
  refine tri_reg M hI hn (outs := ?_) (s' := ?_) ?_ ?_ ?_ ?_
  rotate_left 2
  · rfl
  · kernel_rfl
  · simp
    exact ⟨hrow, hok1⟩
  refine tri_conv (s' := ⟨[(0, none, pv1 (.pt px 0 0)), (1, none, pvI rec), (7, none, rowV a), (8, none, rowV b)], [(px, none, 0, .box 130 (curP (.sl 2 n fr) s2 z))]⟩) (fun a w hg => (hg.reset (kT := [0, 1, 7, 8]) (kO := [px]) (by rfl) (by simp)).same ?_ ?_) ?_
  · refine .cons rfl (.cons rfl (.cons rfl (.cons ?_ .nil)))
    change rowV (curRun (rowRes n fr) (Prg.sects (firstS rec 1) 8 []) s1).1 = _
    rw [h2]
  · refine .cons (.box ?_) .nil
    change curP (.sl 2 n fr) (curRun (rowRes n fr) (Prg.sects (firstS rec 1) 8 []) s1).2 z = _
    rw [h2]
  obtain ⟨i, ask, st⟩ := s2
  refine tri_seq ?_
  refine tri_reg M hI hn (outs := ?_) (s' := ?_) ?_ ?_ ?_ ?_
  rotate_left 2
  · rfl
  · kernel_rfl
  · simp
  refine tri_cond (b := ?_) ?_ (fun hc => ?_) (fun hc => ?_)
  rotate_left 1
  · rfl
  · refine tri_reg M hI hn (outs := ?_) (s' := ?_) ?_ ?_ ?_ ?_
    rotate_left 2
    · rfl
    · kernel_rfl
    · simp
    have hst : st = true := hc
    subst hst
    refine tri_ret (fun a w hg => ⟨.inr rfl, _, ⟨?_, (fun o ho => by obtain rfl := List.mem_singleton.1 ho; exact ⟨_, rfl, exL_refl rfl⟩), fun p hp => (by cases hp)⟩, hg⟩)
    refine retTo_cold (out := ?_) ?_ ?_ ?_ ?_ ?_
    rotate_left 1
    · rfl
    · simp
    · rfl
    · rfl
    rfl
  · have hst : st = false := hc
    subst hst
    refine tri_skip ?_
    change Tri _ _ _ _ _
    refine tri_reg M hI hn (outs := ?_) (s' := ?_) ?_ ?_ ?_ ?_
    rotate_left 2
    · rfl
    · kernel_rfl
    · simp
      exact ⟨hr, by omega⟩
    refine tri_reg M hI hn (outs := ?_) (s' := ?_) ?_ ?_ ?_ ?_
    rotate_left 2
    · rfl
    · kernel_rfl
    · simp
      exact ⟨hr, by omega⟩
    refine tri_conv (s' := ⟨[(9, none, pvI (decS rec a).1), (10, none, strV (strOf (decS rec a).2)), (11, none, pvI (decS rec b).1), (12, none, strV (strOf (decS rec b).2))], [(px, none, 0, .box 130 (curP (.sl 2 n fr) ⟨i, ask, false⟩ z))]⟩) (fun a w hg => (hg.reset (kT := [9, 10, 11, 12]) (kO := [px]) (by rfl) (by simp)).same ?_ ?_) ?_
    · rw [rowB_byF, rowB_byF]
      exact .cons rfl (.cons rfl (.cons rfl (.cons rfl .nil)))
    · exact .cons (.box rfl) .nil
    generalize decS rec a = x
    generalize decS rec b = y
    refine tri_seq ?_
    refine tri_reg M hI hn (outs := ?_) (s' := ?_) ?_ ?_ ?_ ?_
    rotate_left 2
    · rfl
    · kernel_rfl
    · simp
    refine tri_cond (b := ?_) ?_ (fun hc => ?_) (fun hc => ?_)
    rotate_left 1
    · rfl
    · refine tri_reg M hI hn (outs := ?_) (s' := ?_) ?_ ?_ ?_ ?_
      rotate_left 2
      · rfl
      · kernel_rfl
      · simp
      have h : x.1 = 0 ∨ x.1 < y.1 := by simp at hc; omega
      have e : curS x y = (y, 1) := by unfold curS; rw [if_pos h]
      rw [e]
      refine tri_ret (fun a w hg => ⟨.inr rfl, _, ⟨?_, (fun o ho => by obtain rfl := List.mem_singleton.1 ho; exact ⟨_, rfl, exL_refl rfl⟩), fun p hp => (by cases hp)⟩, hg⟩)
      refine retTo_cold (out := ?_) ?_ ?_ ?_ ?_ ?_
      rotate_left 1
      · rfl
      · simp
      · rfl
      · rfl
      rfl
    · refine tri_skip ?_
      change Tri _ _ _ _ _
      refine tri_reg M hI hn (outs := ?_) (s' := ?_) ?_ ?_ ?_ ?_
      rotate_left 2
      · rfl
      · kernel_rfl
      · simp
      have h : ¬ (x.1 = 0 ∨ x.1 < y.1) := by simp at hc; omega
      have e : curS x y = (x, 0) := by unfold curS; rw [if_neg h]
      rw [e]
      refine tri_ret (fun a w hg => ⟨.inr rfl, _, ⟨?_, (fun o ho => by obtain rfl := List.mem_singleton.1 ho; exact ⟨_, rfl, exL_refl rfl⟩), fun p hp => (by cases hp)⟩, hg⟩)
      refine retTo_cold (out := ?_) ?_ ?_ ?_ ?_ ?_
      rotate_left 1
      · rfl
      · simp
      · rfl
      · rfl
      rfl
def decCuC : List PV → Option (Prop × CurF)
  | [.w (.one (.lit (.int .i64 rec)))] => some (i64P rec, fun log s => ((curRun log (Prg.cur rec) s).2, cuR (curRun log (Prg.cur rec) s)))
  | _ => none
theorem current_spec : SpecOk Tryd.prog ShaMem 121 (ptSpec 130 (curG decCuC)) :=
  curSpec_ok (call_enters Tryd.func121 (by kernel_rfl) rfl) (fun ys q F h hq => by
    unfold decCuC at h
    split at h
    · cases h; exact current_fun _ hq
    · cases h)
def cuL4 : List (Nat × Spec) := (121, ptSpec 130 (curG decCuC)) :: cuL3
theorem cu4_ok : ∀ p ∈ cuL4, SpecOk Tryd.prog ShaMem p.1 p.2 := by
  intro p hp
  rcases List.mem_cons.1 hp with rfl | hp
  · exact current_spec
  · exact cu3_ok p hp
theorem cu4M : Mach Tryd.prog ShaMem (find cuL4) := ⟨specs_of cu4_ok, mixed_⟩
def ldR (x : StO × CurS) : StO := if x.2.stop then ⟨noBytes, 0, 13⟩ else x.1
def ldX (rec : Int) (log : List Res) (s : CurS) : CurS × StO := if firstS rec 0 < 0 then (s, ⟨noBytes, 0, 1⟩) else ((curRun log (Prg.load rec) s).2, ldR (curRun log (Prg.load rec) s))
def ldF (rec : Int) : CurF := fun log s => ((ldX rec log s).1, stoPV (ldX rec log s).2)
set_option maxRecDepth 100000 in
set_option maxHeartbeats 1000000 in
theorem rload_fun (rec : Int) (hr : i64P rec) : FunC 81 [pvI rec] (ldF rec) := by
  intro n fr s z hrow hok
  have M := cu4M
  refine funX_of Tryd.func81 rfl rfl rfl (fun A hn hI => ?_)
  unfold ldF ldX
  dsimp only
  have hp : Prg.load rec = if firstS rec 0 < 0 then .ret ⟨noBytes, 0, 1⟩ else (Prg.cur rec).bind fun p => .ret (loadO p.1) := rfl
  refine tri_reg M hI hn (outs := ?_) (s' := ?_) ?_ ?_ ?_ ?_
  rotate_left 2
  · rfl
  · kernel_rfl
  · simp
  refine tri_seq ?_
  refine tri_reg M hI hn (outs := ?_) (s' := ?_) ?_ ?_ ?_ ?_
  rotate_left 2
  · rfl
  · kernel_rfl
  · simp
  refine tri_cond (b := ?_) ?_ (fun hc => ?_) (fun hc => ?_)
  rotate_left 1
  · rfl
  · have h : firstS rec 0 < 0 := of_decide_eq_true hc
    refine tri_reg M hI hn (outs := ?_) (s' := ?_) ?_ ?_ ?_ ?_
    rotate_left 2
    · rfl
    · kernel_rfl
    · simp
    rw [if_pos h]
    refine tri_ret (fun a w hg => ⟨.inr rfl, _, ⟨?_, (fun o ho => by obtain rfl := List.mem_singleton.1 ho; exact ⟨_, rfl, exL_refl rfl⟩), fun p hp => (by cases hp)⟩, hg⟩)
    refine retTo_cold (out := ?_) ?_ ?_ ?_ ?_ ?_
    rotate_left 1
    · rfl
    · simp
    · rfl
    · rfl
    rfl
  · have h : ¬ firstS rec 0 < 0 := of_decide_eq_false hc
    rw [if_neg h, hp, if_neg h, curRun_bind]
    refine tri_skip ?_
    change Tri _ _ _ _ _
    refine tri_reg M hI hn (outs := ?_) (s' := ?_) ?_ ?_ ?_ ?_
    rotate_left 2
    · rfl
    · kernel_rfl
    · simp
      exact ⟨⟨hrow, hok⟩, hr⟩
    obtain ⟨q, s1, hq⟩ : ∃ q s1, curRun (rowRes n fr) (Prg.cur rec) s = (q, s1) := ⟨_, _, rfl⟩
    refine tri_conv (s' := ⟨[(4, none, pv1 (.pt 0 0 0)), (6, none, pvI (cuV (q, s1)).2.1), (7, none, strV (cuV (q, s1)).2.2)], [(px, none, 0, .box 130 (curP (.sl 2 n fr) s1 z)), (0, none, 0, .box 61 [.lit (.string noBytes), .lit (.int .i64 0), .lit (.int .i64 0)])]⟩) (fun a w hg => (hg.reset (kT := [4, 6, 7]) (kO := [px, 0]) (by rfl) (by simp)).same ?_ ?_) ?_
    · refine .cons rfl (.cons ?_ (.cons ?_ .nil))
      · change pvI (cuV (curRun (rowRes n fr) (Prg.cur rec) s)).2.1 = _
        rw [hq]
      · change strV (cuV (curRun (rowRes n fr) (Prg.cur rec) s)).2.2 = _
        rw [hq]
    · refine .cons (.box ?_) (.cons (.box rfl) .nil)
      change curP (.sl 2 n fr) (curRun (rowRes n fr) (Prg.cur rec) s).2 z = _
      rw [hq]
    rw [hq]
    obtain ⟨i, ask, st⟩ := s1
    refine tri_seq ?_
    refine tri_reg M hI hn (outs := ?_) (s' := ?_) ?_ ?_ ?_ ?_
    rotate_left 2
    · rfl
    · kernel_rfl
    · simp
    refine tri_cond (b := ?_) ?_ (fun hc => ?_) (fun hc => ?_)
    rotate_left 1
    · rfl
    · refine tri_reg M hI hn (outs := ?_) (s' := ?_) ?_ ?_ ?_ ?_
      rotate_left 2
      · rfl
      · kernel_rfl
      · simp
      have h0 : (cuV (q, ⟨i, ask, st⟩)).2.1 = 0 := by simpa using hc
      have e : ldR (loadO q.1, ⟨i, ask, st⟩) = ⟨noBytes, 0, 13⟩ := by
        cases st with
        | true => rfl
        | false =>
          have h1 : q.1.1 = 0 := h0
          show loadO q.1 = _
          unfold loadO
          rw [if_pos h1]
      change Tri _ _ _ _ _
      simp only [curRun]
      rw [e]
      refine tri_ret (fun a w hg => ⟨.inr rfl, _, ⟨?_, (fun o ho => by obtain rfl := List.mem_singleton.1 ho; exact ⟨_, rfl, exL_refl rfl⟩), fun p hp => (by cases hp)⟩, hg⟩)
      refine retTo_cold (out := ?_) ?_ ?_ ?_ ?_ ?_
      rotate_left 1
      · rfl
      · simp
      · rfl
      · rfl
      rfl
    · refine tri_skip ?_
      change Tri _ _ _ _ _
      refine tri_reg M hI hn (outs := ?_) (s' := ?_) ?_ ?_ ?_ ?_
      rotate_left 2
      · rfl
      · kernel_rfl
      · simp
      have h0 : ¬ (cuV (q, ⟨i, ask, st⟩)).2.1 = 0 := by simpa using hc
      cases st with
      | true => exact absurd rfl h0
      | false =>
        have h1 : ¬ q.1.1 = 0 := h0
        have e : ldR (loadO q.1, ⟨i, ask, false⟩) = ⟨strOf q.1.2, q.1.1, 0⟩ := by
          show loadO q.1 = _
          unfold loadO
          rw [if_neg h1]
        simp only [curRun]
        rw [e]
        refine tri_ret (fun a w hg => ⟨.inr rfl, _, ⟨?_, (fun o ho => by obtain rfl := List.mem_singleton.1 ho; exact ⟨_, rfl, exL_refl rfl⟩), fun p hp => (by cases hp)⟩, hg⟩)
        refine retTo_cold (out := ?_) ?_ ?_ ?_ ?_ ?_
        rotate_left 1
        · rfl
        · simp
        · rfl
        · rfl
        rfl
end Go.Proofs.YtoefmncdloffaaaDoor.Pv


namespace Go.Proofs.YtoefmncdloffaaaDoor.Pv
open Go.RowKit
def svX (rec : Int) (c : ByteArray) (log : List Res) (s : CurS) : CurS × StO :=
  if firstS rec 0 < 0 then (s, ⟨noBytes, 0, 1⟩) else if 2000 < c.size then (s, ⟨noBytes, 0, 19⟩) else
  if (curRun log (Prg.cur rec) s).2.stop = true then ((curRun log (Prg.cur rec) s).2, ⟨noBytes, 0, 0⟩) else ((curRun log (Prg.save rec c) s).2, (curRun log (Prg.save rec c) s).1)
def svF (rec : Int) (c : ByteArray) : CurF := fun log s => ((svX rec c log s).1, stoPV (svX rec c log s).2)
theorem zeros_str : rowB 256 (fun _ => [PC.lit (.int .u8 0)]) = zeroSec := by decide +kernel
def tlP (c : ByteArray) (seq F : Int) (b : List UInt8) (i : Nat) : Prg StO := (Prg.wrs F b (nsec b - i) i).bind fun _ => (Prg.wr F (strOf (secS b 0))).bind fun _ => .ret ⟨c, seq, 0⟩
theorem tlP_step (c : ByteArray) (seq F : Int) (b : List UInt8) {i : Nat} (hi : i < nsec b) (log : List Res) (s : CurS) : curRun log (tlP c seq F b i) s = curRun log (tlP c seq F b (i + 1)) (curRun log (Prg.wr (F + (i : Int)) (strOf (secS b i))) s).2 := by
  have e : nsec b - i = (nsec b - (i + 1)) + 1 := by omega
  unfold tlP
  rw [e, Prg.wrs, Prg.bind_assoc, curRun_bind]
theorem tlP_end (c : ByteArray) (seq F : Int) (b : List UInt8) {i : Nat} (hi : ¬ i < nsec b) (log : List Res) (s : CurS) : curRun log (tlP c seq F b i) s = (⟨c, seq, 0⟩, (curRun log (Prg.wr F (strOf (secS b 0))) s).2) := by
  have e : nsec b - i = 0 := by omega
  unfold tlP
  rw [e]
  rfl
def svSt (n : Nat) (fr : Nat → List PC) (z : List UInt8) (c : ByteArray) (sq : Int) (b : List UInt8) (F : Int) (cs : CurS) (i : Nat) : St :=
  ⟨[(0, none, pv1 (.pt px 0 0)), (2, none, strV c), (6, none, pv1 (.pt 0 0 0)), (8, none, pvI sq), (10, none, pv1 (.ow 10004 0 1 0 b.length)), (11, none, pvI F), (12, none, pvI (i : Int))],
    [(px, none, 0, .box 130 (curP (.sl 2 n fr) cs z)), (10004, none, 0, .arr 5 1 b.length (byF b)), (0, none, 0, .box 61 [.lit (.string noBytes), .lit (.int .i64 0), .lit (.int .i64 0)])]⟩
set_option maxRecDepth 100000 in
set_option maxHeartbeats 2000000 in
theorem rsave_fun (rec : Int) (hr : i64P rec) (c : ByteArray) : FunC 84 [pvI rec, strV c] (svF rec c) := by
  intro n fr s z hrow hok
  have M := cu4M
  have hb1 : Tryd.prog.types[5].bytes = 1 := by kernel_rfl
  have hs1 : Tryd.prog.types[5].size = 1 := by kernel_rfl
  refine funX_of Tryd.func84 rfl rfl rfl (fun A hn hI => ?_)
  unfold svF
  dsimp only
  obtain ⟨R, hR⟩ : ∃ R, svX rec c (rowRes n fr) s = R := ⟨_, rfl⟩
  rw [hR]
  unfold svX at hR
  refine tri_reg M hI hn (outs := ?_) (s' := ?_) ?_ ?_ ?_ ?_
  rotate_left 2
  · rfl
  · kernel_rfl
  · simp
  refine tri_seq ?_
  refine tri_reg M hI hn (outs := ?_) (s' := ?_) ?_ ?_ ?_ ?_
  rotate_left 2
  · rfl
  · kernel_rfl
  · simp
  refine tri_cond (b := ?_) ?_ (fun hc => ?_) (fun hc => ?_)
  rotate_left 1
  · rfl
  · have h : firstS rec 0 < 0 := of_decide_eq_true hc
    rw [if_pos h] at hR
    refine tri_reg M hI hn (outs := ?_) (s' := ?_) ?_ ?_ ?_ ?_
    rotate_left 2
    · rfl
    · kernel_rfl
    · simp
    rw [← hR]
    refine tri_ret (fun a w hg => ⟨.inr rfl, _, ⟨?_, (fun o ho => by obtain rfl := List.mem_singleton.1 ho; exact ⟨_, rfl, exL_refl rfl⟩), fun p hp => (by cases hp)⟩, hg⟩)
    refine retTo_cold (out := ?_) ?_ ?_ ?_ ?_ ?_
    rotate_left 1
    · rfl
    · simp
    · rfl
    · rfl
    rfl
  · have h : ¬ firstS rec 0 < 0 := of_decide_eq_false hc
    rw [if_neg h] at hR
    refine tri_skip ?_
    change Tri _ _ _ _ _
    refine tri_seq ?_
    refine tri_reg M hI hn (outs := ?_) (s' := ?_) ?_ ?_ ?_ ?_
    rotate_left 2
    · rfl
    · kernel_rfl
    · simp
    refine tri_cond (b := ?_) ?_ (fun hc => ?_) (fun hc => ?_)
    rotate_left 1
    · rfl
    · have h2 : 2000 < c.size := by have := of_decide_eq_true hc; omega
      rw [if_pos h2] at hR
      refine tri_reg M hI hn (outs := ?_) (s' := ?_) ?_ ?_ ?_ ?_
      rotate_left 2
      · rfl
      · kernel_rfl
      · simp
      rw [← hR]
      refine tri_ret (fun a w hg => ⟨.inr rfl, _, ⟨?_, (fun o ho => by obtain rfl := List.mem_singleton.1 ho; exact ⟨_, rfl, exL_refl rfl⟩), fun p hp => (by cases hp)⟩, hg⟩)
      refine retTo_cold (out := ?_) ?_ ?_ ?_ ?_ ?_
      rotate_left 1
      · rfl
      · simp
      · rfl
      · rfl
      rfl
    · have h2 : ¬ 2000 < c.size := by have := of_decide_eq_false hc; omega
      rw [if_neg h2] at hR
      refine tri_skip ?_
      change Tri _ _ _ _ _
      refine tri_reg M hI hn (outs := ?_) (s' := ?_) ?_ ?_ ?_ ?_
      rotate_left 2
      · rfl
      · kernel_rfl
      · simp
        exact ⟨⟨hrow, hok⟩, hr⟩
      have hp : Prg.save rec c = (Prg.cur rec).bind fun p => if 1099511627776 < p.1.1 + 1 then .ret ⟨noBytes, 0, 19⟩ else (Prg.write (firstS rec (1 - (p.2 : Int))) (encS rec (p.1.1 + 1) c.data.toList)).bind fun _ => .ret ⟨c, p.1.1 + 1, 0⟩ := by
        unfold Prg.save
        rw [if_neg h, if_neg h2]
      rw [hp, curRun_bind] at hR
      have hok1 := curRun_le (Prg.cur rec) hok
      have hq1 := curRun_all (cur_all rec) (rowRes n fr) s
      obtain ⟨q, s1, hq⟩ : ∃ q s1, curRun (rowRes n fr) (Prg.cur rec) s = (q, s1) := ⟨_, _, rfl⟩
      rw [hq] at hR hok1 hq1
      dsimp only at hR hok1 hq1
      refine tri_conv (s' := ⟨[(0, none, pv1 (.pt px 0 0)), (1, none, pvI rec), (2, none, strV c), (6, none, pv1 (.pt 0 0 0)), (7, none, pvI (cuV (q, s1)).1), (8, none, pvI (cuV (q, s1)).2.1)], [(px, none, 0, .box 130 (curP (.sl 2 n fr) s1 z)), (0, none, 0, .box 61 [.lit (.string noBytes), .lit (.int .i64 0), .lit (.int .i64 0)])]⟩) (fun a w hg => (hg.reset (kT := [0, 1, 2, 6, 7, 8]) (kO := [px, 0]) (by rfl) (by simp)).same ?_ ?_) ?_
      · refine .cons rfl (.cons rfl (.cons rfl (.cons rfl (.cons ?_ (.cons ?_ .nil)))))
        · change pvI (cuV (curRun (rowRes n fr) (Prg.cur rec) s)).1 = _
          rw [hq]
        · change pvI (cuV (curRun (rowRes n fr) (Prg.cur rec) s)).2.1 = _
          rw [hq]
      · refine .cons (.box ?_) (.cons (.box rfl) .nil)
        change curP (.sl 2 n fr) (curRun (rowRes n fr) (Prg.cur rec) s).2 z = _
        rw [hq]
      clear hq
      obtain ⟨i1, ask1, st⟩ := s1
      refine tri_seq ?_
      refine tri_reg M hI hn (outs := ?_) (s' := ?_) ?_ ?_ ?_ ?_
      rotate_left 2
      · rfl
      · kernel_rfl
      · simp
      refine tri_cond (b := ?_) ?_ (fun hc => ?_) (fun hc => ?_)
      rotate_left 1
      · rfl
      · have hst : st = true := hc
        subst hst
        rw [if_pos rfl] at hR
        refine tri_reg M hI hn (outs := ?_) (s' := ?_) ?_ ?_ ?_ ?_
        rotate_left 2
        · rfl
        · kernel_rfl
        · simp
        rw [← hR]
        refine tri_ret (fun a w hg => ⟨.inr rfl, _, ⟨?_, (fun o ho => by obtain rfl := List.mem_singleton.1 ho; exact ⟨_, rfl, exL_refl rfl⟩), fun p hp => (by cases hp)⟩, hg⟩)
        refine retTo_cold (out := ?_) ?_ ?_ ?_ ?_ ?_
        rotate_left 1
        · rfl
        · simp
        · rfl
        · rfl
        rfl
      · have hst : st = false := hc
        subst hst
        rw [if_neg (by simp)] at hR
        refine tri_skip ?_
        change Tri _ _ _ _ _
        have e1 : (cuV (q, ⟨i1, ask1, false⟩)).1 = (q.2 : Int) := rfl
        have e2 : (cuV (q, ⟨i1, ask1, false⟩)).2.1 = q.1.1 := rfl
        rw [e1, e2]
        obtain ⟨⟨sq, co⟩, m⟩ := q
        dsimp only at hR hq1 ⊢
        refine tri_seq ?_
        refine tri_reg M hI hn (outs := ?_) (s' := ?_) ?_ ?_ ?_ ?_
        rotate_left 2
        · rfl
        · kernel_rfl
        · simp
        refine tri_cond (b := ?_) ?_ (fun hc => ?_) (fun hc => ?_)
        rotate_left 1
        · rfl
        · have h7 : 1099511627776 < sq + 1 := by have h0 : sq = 1099511627776 := (by simpa using hc); omega
          rw [if_pos h7] at hR
          refine tri_reg M hI hn (outs := ?_) (s' := ?_) ?_ ?_ ?_ ?_
          rotate_left 2
          · rfl
          · kernel_rfl
          · simp
          rw [← hR]
          refine tri_ret (fun a w hg => ⟨.inr rfl, _, ⟨?_, (fun o ho => by obtain rfl := List.mem_singleton.1 ho; exact ⟨_, rfl, exL_refl rfl⟩), fun p hp => (by cases hp)⟩, hg⟩)
          refine retTo_cold (out := ?_) ?_ ?_ ?_ ?_ ?_
          rotate_left 1
          · rfl
          · simp
          · rfl
          · rfl
          rfl
        · have h7 : ¬ 1099511627776 < sq + 1 := by have h0 : ¬ sq = 1099511627776 := (by simpa using hc); omega
          rw [if_neg h7] at hR
          refine tri_skip ?_
          change Tri _ _ _ _ _
          have hw6 : IntKind.i64.wrap (sq + 1) = sq + 1 := wrap_i64_id (by omega) (by omega)
          have hF1 : IntKind.i64.wrap (1 - (m : Int)) = 1 - (m : Int) := wrap_i64_id (by omega) (by omega)
          have hFB := firstS_bnd rec (1 - (m : Int))
          refine tri_reg M hI hn (outs := ?_) (s' := ?_) ?_ ?_ ?_ ?_
          rotate_left 2
          · rfl
          · kernel_rfl
          · simp
            rw [hw6]
            exact ⟨hr, ⟨by omega, by omega⟩, by omega⟩
          refine tri_reg M hI hn (outs := ?_) (s' := ?_) ?_ ?_ ?_ ?_
          rotate_left 2
          · rfl
          · kernel_rfl
          · simp
          refine tri_reg M hI hn (outs := ?_) (s' := ?_) ?_ ?_ ?_ ?_
          rotate_left 2
          · rfl
          · kernel_rfl
          · simp
            exact ⟨by rw [hb1]; omega, fun i _ => rfl, hrow, hok1⟩
          refine tri_seq ?_
          refine tri_reg M hI hn (outs := ?_) (s' := ?_) ?_ ?_ ?_ ?_
          rotate_left 2
          · rfl
          · kernel_rfl
          · simp
          have hbl : (encS rec (sq + 1) c.data.toList).length ≤ 3000 ∧ 0 < (encS rec (sq + 1) c.data.toList).length := by
            rw [encS_length, encB_length]
            have := wInt_length (sq + 1)
            have := wInt_length (c.data.toList.length : Int)
            have hcl : c.data.toList.length = c.size := Array.length_toList
            omega
          have hR2 : R = ((curRun (rowRes n fr) (tlP c (sq + 1) (firstS rec (1 - (m : Int))) (encS rec (sq + 1) c.data.toList) 1) (curRun (rowRes n fr) (Prg.wr (firstS rec (1 - (m : Int))) (strOf zeroSec)) ⟨i1, ask1, false⟩).2).2, (curRun (rowRes n fr) (tlP c (sq + 1) (firstS rec (1 - (m : Int))) (encS rec (sq + 1) c.data.toList) 1) (curRun (rowRes n fr) (Prg.wr (firstS rec (1 - (m : Int))) (strOf zeroSec)) ⟨i1, ask1, false⟩).2).1) := by
            rw [← hR]
            unfold Prg.write
            rw [Prg.bind_assoc, curRun_bind]
            unfold tlP
            rw [Prg.bind_assoc]
          clear hR
          have hok2 := curRun_le (Prg.wr (firstS rec (1 - (m : Int))) (strOf zeroSec)) hok1
          refine tri_conv (s' := svSt n fr z c sq (encS rec (sq + 1) c.data.toList) (firstS rec (1 - (m : Int))) (curRun (rowRes n fr) (Prg.wr (firstS rec (1 - (m : Int))) (strOf zeroSec)) ⟨i1, ask1, false⟩).2 1) (fun a w hg => (hg.reset (kT := [0, 2, 6, 8, 10, 11, 12]) (kO := [px, 10004, 0]) (by rfl) (by simp; exact fun i _ x hx => cold_byF _ i x hx)).same ?_ ?_) ?_
          · refine .cons rfl (.cons rfl (.cons rfl (.cons rfl (.cons ?_ (.cons ?_ (.cons rfl .nil))))))
            · rw [hw6]
            · rw [hF1]
          · refine .cons (.box ?_) (.cons (.arr ?_ (fun i _ => ?_)) (.cons (.box rfl) .nil))
            · change curP (.sl 2 n fr) (curRun (rowRes n fr) (Prg.wr (firstS rec (IntKind.i64.wrap (1 - (m : Int)))) (strOf (rowB 256 (fun _ => [PC.lit (.int .u8 0)])))) ⟨i1, ask1, false⟩).2 z = _
              rw [hF1, zeros_str]
            · rw [hw6]
            · rw [hw6]
          generalize (curRun (rowRes n fr) (Prg.wr (firstS rec (1 - (m : Int))) (strOf zeroSec)) ⟨i1, ask1, false⟩).2 = s2 at hR2 hok2 ⊢
          generalize firstS rec (1 - (m : Int)) = F at hR2 hFB ⊢
          generalize encS rec (sq + 1) c.data.toList = b at hR2 hbl ⊢
          have hN : nsec b ≤ 12 ∧ 0 < nsec b := by unfold nsec; omega
          refine tri_block ?_
          refine tri_loop (nsec b) (fun i t => ∃ cs, t = svSt n fr z c sq b F cs i ∧ 0 < i ∧ CurOk (rowRes n fr) cs ∧ R = ((curRun (rowRes n fr) (tlP c (sq + 1) F b i) cs).2, (curRun (rowRes n fr) (tlP c (sq + 1) F b i) cs).1)) 1 ⟨_, rfl, by omega, hok2, hR2⟩ (by omega) (fun i t hJ hi => ?_)
          obtain ⟨cs, rfl, hi0, hok3, hR3⟩ := hJ
          refine tri_seq ?_
          have hwi : IntKind.i64.wrap (256 * (i : Int)) = 256 * (i : Int) := wrap_i64_id (by omega) (by omega)
          refine tri_reg M hI hn (outs := ?_) (s' := ?_) ?_ ?_ ?_ ?_
          rotate_left 2
          · rfl
          · kernel_rfl
          · simp
          rw [hwi]
          refine tri_cond (b := ?_) ?_ (fun hc => ?_) (fun hc => ?_)
          rotate_left 1
          · rfl
          · have hlt : i < nsec b := by have h0 := of_decide_eq_true hc; unfold nsec; omega
            refine tri_skip ?_
            change Tri _ _ _ _ _
            refine tri_seq ?_
            refine tri_block ?_
            have hwF : IntKind.i64.wrap (F + (i : Int)) = F + (i : Int) := wrap_i64_id (by omega) (by omega)
            rw [tlP_step _ _ _ _ hlt] at hR3
            refine tri_region M hI hn (outs := ?_) (s' := ?_) ?_ ?_ ?_ ?_
            rotate_left 2
            · rfl
            · kernel_rfl
            · simp
              exact ⟨fun i _ x hx => cold_byF _ i x hx, by omega, hrow, hok3⟩
            change Tri _ _ _ _ _
            refine tri_region M hI hn (outs := ?_) (s' := ?_) ?_ ?_ ?_ ?_
            rotate_left 2
            · rfl
            · kernel_rfl
            · simp
            intro a w hg
            refine ⟨i + 1, _, by omega, by omega, ⟨_, rfl, by omega, curRun_le _ hok3, hR3⟩, (hg.reset (kT := [0, 2, 6, 8, 10, 11, 12]) (kO := [px, 10004, 0]) (by rfl) (by simp; exact fun i _ x hx => cold_byF _ i x hx)).same ?_ ?_⟩
            · exact .cons rfl (.cons rfl (.cons rfl (.cons rfl (.cons rfl (.cons rfl (.cons (by rw [wrap_nat i (by omega)]) .nil))))))
            · refine .cons (.box ?_) (.cons (.arr rfl (fun i _ => rfl)) (.cons (.box rfl) .nil))
              change curP (.sl 2 n fr) (curRun (rowRes n fr) (Prg.wr (IntKind.i64.wrap (F + (i : Int))) (strOf (secS (rowB b.length fun i => byF b (0 + i)) ((i : Int)).toNat))) cs).2 z = _
              rw [hwF, rowB_byF0, Int.toNat_natCast]
          · have hge : ¬ i < nsec b := by have h0 := of_decide_eq_false hc; unfold nsec; omega
            rw [tlP_end _ _ _ _ hge] at hR3
            refine tri_exit ?_
            change Tri _ _ _ _ _
            refine tri_reg M hI hn (outs := ?_) (s' := ?_) ?_ ?_ ?_ ?_
            rotate_left 2
            · rfl
            · kernel_rfl
            · simp
              exact ⟨fun i _ x hx => cold_byF _ i x hx, by omega, hrow, hok3⟩
            refine tri_reg M hI hn (outs := ?_) (s' := ?_) ?_ ?_ ?_ ?_
            rotate_left 2
            · rfl
            · kernel_rfl
            · simp
            rw [hR3]
            refine tri_conv (s' := ⟨[(6, none, pv1 (.pt 0 0 0))], [(px, none, 0, .box 130 (curP (.sl 2 n fr) (curRun (rowRes n fr) (Prg.wr F (strOf (secS b 0))) cs).2 z)), (0, none, 0, .box 61 [.lit (.string c), .lit (.int .i64 (sq + 1)), .lit (.int .i64 0)])]⟩) (fun a w hg => (hg.reset (kT := [6]) (kO := [px, 0]) (by rfl) (by simp)).same ?_ ?_) ?_
            · exact .cons rfl .nil
            · refine .cons (.box ?_) (.cons (.box ?_) .nil)
              · change curP (.sl 2 n fr) (curRun (rowRes n fr) (Prg.wr F (strOf (secS (rowB b.length fun i => byF b (0 + i)) (Int.toNat 0)))) cs).2 z = _
                rw [rowB_byF0]
                rfl
              · change [PC.lit (.string c), PC.lit (.int .i64 (IntKind.i64.wrap (sq + 1))), PC.lit (.int .i64 0)] = _
                rw [hw6]
            refine tri_ret (fun a w hg => ⟨.inr rfl, _, ⟨?_, (fun o ho => by obtain rfl := List.mem_singleton.1 ho; exact ⟨_, rfl, exL_refl rfl⟩), fun p hp => (by cases hp)⟩, hg⟩)
            refine retTo_cold (out := ?_) ?_ ?_ ?_ ?_ ?_
            rotate_left 1
            · rfl
            · simp
            · rfl
            · rfl
            rfl
end Go.Proofs.YtoefmncdloffaaaDoor.Pv
