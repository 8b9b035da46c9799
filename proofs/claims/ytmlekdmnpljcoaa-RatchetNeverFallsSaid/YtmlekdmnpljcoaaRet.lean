/-
  'return a, b, c' of two structs whose result variables are cells: a region that draws its order.
-/
import Derived.Test.YtmlekdmnpljcoaaWide
import Derived.BigFrame

namespace Go.Proofs.Ytmlekdmnpljcoaa
open Go.RowKit

theorem Blk.loadVar_ {P : Program} {w : World} {b : Nat} {t : TypeId} {cs : Array Value} (hB : Blk w b t cs) {T : TypeId} {n : Nat} (W : Wide P T n) (hn : cs.size = n) : (loadVar T ⟨b, 0, none⟩).run P w = .ok (.agg cs) w := by
  obtain ⟨d, hu, hd⟩ := W.und
  have := run_loadVar_mid (P := P) w b 0 T cs.toList d hB.range hu hd (by rw [Array.length_toList, hn]; exact W.info)
  rw [Array.toArray_toList] at this
  exact this
theorem results_two {P : Program} {fn : Func} {i j k : Tmp} {T1 T2 : TypeId} {n1 n2 : Nat} (W1 : Wide P T1 n1) (W2 : Wide P T2 n2) (hf : fn.results = #[.cell i T1, .cell j T2, .tmp k]) {tmps : Array Value} {w : World} {b1 b2 : Nat} {t1 t2 : TypeId} {c1 c2 : Array Value}
    (hB1 : Blk w b1 t1 c1) (hB2 : Blk w b2 t2 c2) (k1 : c1.size = n1) (k2 : c2.size = n2) (ei : tmps.getD i undef = .pointer (some ⟨b1, 0, none⟩)) (ej : tmps.getD j undef = .pointer (some ⟨b2, 0, none⟩)) :
    (results fn tmps).run P w = .ok (.tuple #[.agg c1, .agg c2, tmps.getD k undef]) w := by
  have h1 := hB1.loadVar_ W1 k1
  have h2 := hB2.loadVar_ W2 k2
  simp only [Array.getD_eq_getD_getElem?] at ei ej
  simp [results, hf, ei, ej, asAddr, h1, h2]

theorem ret_two {P : Program} (hm : P.follows .mixedOrders = true) {T1 T2 T3 : TypeId} {n1 n2 : Nat} (W1 : Wide P T1 n1) (W2 : Wide P T2 n2) {id : Nat} {s1 s2 d1 d2 c : Operand} {x y z : Tmp} {p : String}
    {a : Act} {w : World} {K : Exit → Act → World → Prop} {t1 t2 t3 t4 : TypeId} {b1 b2 b3 b4 : Nat} {c1 c2 o1 o2 : Array Value}
    (hB1 : Blk w b1 t1 c1) (hB2 : Blk w b2 t2 c2) (hB3 : Blk w b3 t3 o1) (hB4 : Blk w b4 t4 o2)
    (k1 : c1.size = n1) (k2 : c2.size = n2) (k3 : o1.size = n1) (k4 : o2.size = n2) (l1 : c1.all (·.oneCell') = true) (l2 : c2.all (·.oneCell') = true)
    (f1 : ¬ b1 = b3 ∧ ¬ b1 = b4 ∧ ¬ b2 = b3 ∧ ¬ b2 = b4 ∧ ¬ b3 = b4)
    (e1 : a.eval s1 = .pointer (some ⟨b1, 0, none⟩)) (e2 : a.eval s2 = .pointer (some ⟨b2, 0, none⟩)) (e3 : a.eval d1 = .pointer (some ⟨b3, 0, none⟩)) (e4 : a.eval d2 = .pointer (some ⟨b4, 0, none⟩))
    (hx : x < a.tmps.size) (hy : y < a.tmps.size) (hxy : x ≠ y)
    (g1 : s1 ≠ .tmp y) (g2 : s2 ≠ .tmp x) (g3 : d1 ≠ .tmp x ∧ d1 ≠ .tmp y) (g4 : d2 ≠ .tmp x ∧ d2 ≠ .tmp y) (g5 : c ≠ .tmp x ∧ c ≠ .tmp y)
    (h : ∀ w', Chg (fun k => k = b3 ∨ k = b4) w w' → w'.heap.size = w.heap.size → Blk w' b3 t3 c1 → Blk w' b4 t4 c2 → K .normal (((a.put (some x) (.agg c1)).put (some y) (.agg c2)).put (some z) (a.eval c)) w') :
    (Code.region id #[⟨some x, .load T1 s1, T1, p, #[], none⟩,
      ⟨some y, .load T2 s2, T2, p, #[⟨2, .gcOnly .lateStores⟩], none⟩,
      ⟨none, .store T1 d1 (.tmp x), 0, p, #[⟨0, .data⟩, ⟨0, .phase⟩, ⟨1, .textOnly .lateStores⟩], none⟩,
      ⟨none, .store T2 d2 (.tmp y), 0, p, #[⟨1, .data⟩, ⟨2, .chain⟩, ⟨0, .phase⟩, ⟨1, .phase⟩, ⟨2, .phase⟩], none⟩,
      ⟨some z, .assign c, T3, p, #[⟨3, .chain⟩, ⟨0, .phase⟩, ⟨1, .phase⟩, ⟨2, .phase⟩, ⟨3, .phase⟩], none⟩] true).wp P K a w := by
  have vx : ∀ (b : Act) v, x < b.tmps.size → (b.put (some x) v).eval (.tmp x) = v := fun b v hb => by simp [Act.eval, Act.put, hb]
  have vy : ∀ (b : Act) v, y < b.tmps.size → (b.put (some y) v).eval (.tmp y) = v := fun b v hb => by simp [Act.eval, Act.put, hb]
  have sz : ∀ (b : Act) o v, (b.put o v).tmps.size = b.tmps.size := fun b o v => by cases o <;> simp [Act.put]
  have ne : ∀ (b : Act) (q : Operand) (i : Tmp) v, q ≠ .tmp i → (b.put (some i) v).eval q = b.eval q := fun b q i v hq => Act.eval_put fun d hd => by cases hd; exact hq
  have tne : ∀ (i j : Tmp), i ≠ j → (Operand.tmp i ≠ .tmp j) := fun i j h e => h (by cases e; rfl)
  have comm := Act.put_comm a (x := some x) (y := some y) (.agg c1) (.agg c2) (fun d hd e => hxy (by cases hd; cases e; rfl))
  obtain ⟨f13, f14, f23, f24, f34⟩ := f1
  -- the leaf: the last store and the assignment
  have leaf : ∀ w1, Chg (fun k => k = b3) w w1 → w1.heap.size = w.heap.size → Blk w1 b3 t3 c1 → Blk w1 b4 t4 o2 →
      wpAny P .any #[⟨some x, .load T1 s1, T1, p, #[], none⟩,
      ⟨some y, .load T2 s2, T2, p, #[⟨2, .gcOnly .lateStores⟩], none⟩,
      ⟨none, .store T1 d1 (.tmp x), 0, p, #[⟨0, .data⟩, ⟨0, .phase⟩, ⟨1, .textOnly .lateStores⟩], none⟩,
      ⟨none, .store T2 d2 (.tmp y), 0, p, #[⟨1, .data⟩, ⟨2, .chain⟩, ⟨0, .phase⟩, ⟨1, .phase⟩, ⟨2, .phase⟩], none⟩,
      ⟨some z, .assign c, T3, p, #[⟨3, .chain⟩, ⟨0, .phase⟩, ⟨1, .phase⟩, ⟨2, .phase⟩, ⟨3, .phase⟩], none⟩] K 2 #[true, true, true, false, false] ((a.put (some x) (.agg c1)).put (some y) (.agg c2)) w1 := by
    intro w1 hc1 hz1 hb3 hb4
    refine wpAny_ready (rs := [3]) (by kernel_rfl) (by simp) (AllReady.cons rfl (fun J hJ => ?_) AllReady.nil)
    refine step_storeB (t := t4) (old := o2) rfl rfl W2 ?_ ?_ hb4 k4 k2 l2 fun w2 hb4' hc2 hz2 => hJ _ _ ?_
    · rw [ne _ _ _ _ g4.2, ne _ _ _ _ g4.1]; exact e4
    · exact vy _ _ (by rw [sz]; exact hy)
    refine wpAny_ready (rs := [4]) (by kernel_rfl) (by simp) (AllReady.cons rfl (fun J hJ => ?_) AllReady.nil)
    rw [if_pos (by rfl)]
    refine BigFrame.wp_assign c rfl (hJ _ _ ?_)
    refine wpAny_done (by kernel_rfl) ?_ _
    have ec : (((a.put (some x) (.agg c1)).put (some y) (.agg c2)).put none undef).eval c = a.eval c :=
      (ne (a.put (some x) (.agg c1)) c y _ g5.2).trans (ne a c x _ g5.1)
    show K .normal ((((a.put (some x) (.agg c1)).put (some y) (.agg c2)).put none undef).put (some z) ((((a.put (some x) (.agg c1)).put (some y) (.agg c2)).put none undef).eval c)) w2
    rw [ec]
    refine h w2 ?_ (by rw [hz2, hz1]) (hb3.chg hc2 f34) hb4'
    exact (hc1.mono fun k _ hk => .inl hk).trans (hc2.mono fun k _ hk => .inr hk)
  have s3 : ∀ (fuel : Nat) (l : Array Bool) (J : Act → World → Prop) (b : Act), b.eval d1 = a.eval d1 → b.eval (.tmp x) = .agg c1 →
      (∀ w1, Chg (fun k => k = b3) w w1 → w1.heap.size = w.heap.size → Blk w1 b3 t3 c1 → Blk w1 b4 t4 o2 → Blk w1 b2 t2 c2 → J (b.put none undef) w1) →
      if Region.wanted ⟨none, .store T1 d1 (.tmp x), 0, p, #[⟨0, .data⟩, ⟨0, .phase⟩, ⟨1, .textOnly .lateStores⟩], none⟩ (yielded #[⟨some x, .load T1 s1, T1, p, #[], none⟩,
      ⟨some y, .load T2 s2, T2, p, #[⟨2, .gcOnly .lateStores⟩], none⟩,
      ⟨none, .store T1 d1 (.tmp x), 0, p, #[⟨0, .data⟩, ⟨0, .phase⟩, ⟨1, .textOnly .lateStores⟩], none⟩,
      ⟨none, .store T2 d2 (.tmp y), 0, p, #[⟨1, .data⟩, ⟨2, .chain⟩, ⟨0, .phase⟩, ⟨1, .phase⟩, ⟨2, .phase⟩], none⟩,
      ⟨some z, .assign c, T3, p, #[⟨3, .chain⟩, ⟨0, .phase⟩, ⟨1, .phase⟩, ⟨2, .phase⟩, ⟨3, .phase⟩], none⟩] b.tmps) = true
        then Oper.wp P ⟨none, .store T1 d1 (.tmp x), 0, p, #[⟨0, .data⟩, ⟨0, .phase⟩, ⟨1, .textOnly .lateStores⟩], none⟩ b w.drew J K else J (b.put none undef) w.drew := by
    intro fuel l J b hd hx' hK
    refine step_storeB (t := t3) (old := o1) rfl rfl W1 (by rw [hd]; exact e3) hx' hB3.drew k3 k1 l1 fun w1 hb hc hz => ?_
    have hc' : Chg (fun k => k = b3) w w1 := (Chg.drew (Chg.refl _ _)).trans hc
    exact hK w1 hc' (hz.trans rfl) hb (hB4.chg hc' fun e => f34 e.symm) (hB2.chg hc' f23)
  refine wp_region_any hm ?_
  show wpAny P .any _ K 5 #[false, false, false, false, false] a w.drew
  refine wpAny_ready (rs := [0, 1]) (by kernel_rfl) (by simp) (AllReady.cons rfl (fun J hJ => ?_) (AllReady.cons rfl (fun J hJ => ?_) AllReady.nil))
  · refine step_loadB (t := t1) rfl rfl W1 e1 hB1.drew k1 (hJ _ _ ?_)
    refine wpAny_ready (rs := [1, 2]) (by kernel_rfl) (by simp) (AllReady.cons rfl (fun J hJ => ?_) (AllReady.cons rfl (fun J hJ => ?_) AllReady.nil))
    · refine step_loadB (t := t2) rfl rfl W2 ((ne _ _ _ _ g2).trans e2) hB2.drew k2 (hJ _ _ ?_)
      refine wpAny_ready (rs := [2]) (by kernel_rfl) (by simp) (AllReady.cons rfl (fun J hJ => ?_) AllReady.nil)
      refine s3 2 #[] J _ ?_ ?_ fun w1 h1 h2 h3 h4 _ => hJ _ _ (leaf w1 h1 h2 h3 h4)
      · exact (ne (a.put (some x) (.agg c1)) d1 y _ g3.2).trans (ne a d1 x _ g3.1)
      · exact (ne (a.put (some x) (.agg c1)) (.tmp x) y _ (tne _ _ hxy)).trans (vx _ _ hx)
    · refine s3 2 #[] J _ (ne _ _ _ _ g3.1) (vx _ _ hx) fun w1 h1 h2 h3 h4 h5 => hJ _ _ ?_
      refine wpAny_ready (rs := [1]) (by kernel_rfl) (by simp) (AllReady.cons rfl (fun J hJ => ?_) AllReady.nil)
      refine step_loadB (t := t2) rfl rfl W2 ((ne _ _ _ _ g2).trans e2) h5 k2 (hJ _ _ (leaf w1 h1 h2 h3 h4))
  · refine step_loadB (t := t2) rfl rfl W2 e2 hB2.drew k2 (hJ _ _ ?_)
    refine wpAny_ready (rs := [0]) (by kernel_rfl) (by simp) (AllReady.cons rfl (fun J hJ => ?_) AllReady.nil)
    refine step_loadB (t := t1) rfl rfl W1 ((ne _ _ _ _ g1).trans e1) hB1.drew k1 (hJ _ _ ?_)
    have comm' : (a.put (some y) (.agg c2)).put (some x) (.agg c1) = (a.put (some x) (.agg c1)).put (some y) (.agg c2) := comm.symm
    show wpAny _ _ _ _ _ _ ((a.put (some y) (.agg c2)).put (some x) (.agg c1)) _
    rw [comm']
    refine wpAny_ready (rs := [2]) (by kernel_rfl) (by simp) (AllReady.cons rfl (fun J hJ => ?_) AllReady.nil)
    refine s3 2 #[] J _ ?_ ?_ fun w1 h1 h2 h3 h4 _ => hJ _ _ (leaf w1 h1 h2 h3 h4)
    · exact (ne (a.put (some x) (.agg c1)) d1 y _ g3.2).trans (ne a d1 x _ g3.1)
    · exact (ne (a.put (some x) (.agg c1)) (.tmp x) y _ (tne _ _ hxy)).trans (vx _ _ hx)

end Go.Proofs.Ytmlekdmnpljcoaa
