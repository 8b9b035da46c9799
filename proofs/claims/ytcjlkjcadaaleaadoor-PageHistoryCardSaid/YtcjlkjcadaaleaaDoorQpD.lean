/-
  Several texts in one file: each has its own heading below.
-/
import Derived.Test.YtcjlkjcadaaleaaDoorQpC
import Derived.ChangeKeysEq
import Derived.Laws.MakeOwn
import Derived.Deep.LoopGhost

/-
  The abstract machine is sound: comparison of structs and arrays, operators. Plain: no function of the program is named here.
-/
namespace Go.Proofs.YtcjlkjcadaaleaaDoor.Pv
open Go.RowKit

section
variable {P : Program}
theorem run_part {C : Ctx} {t : TypeId} {n off : Nat} {m : List PC} {pw : PW} {cs : Array Value} (hsz : szOf P t = some n) (hw : mkW P t m = some pw) (hr : RL C m ((cs.toList.drop off).take n)) (_ : off + n ≤ cs.size) (w : World) :
    ∃ val, (part t cs off).run P w = .ok val w ∧ RW C pw val := by
  obtain ⟨i, hi, hin⟩ := szOf_info hsz
  rcases mkW_ok hw hr with ⟨hrow, h1⟩ | ⟨hrow, u, hxs, _, h1⟩
  · obtain ⟨d, hd1, hd2⟩ := rowTy_und hrow
    have hag : (isAgg t).run P w = .ok true w := by
      unfold isAgg
      rw [Sem.run_bind, run_underlying hd1 w]
      cases d <;> simp_all
    have hex : cs.extract off (off + n) = ((cs.toList.drop off).take n).toArray := by
      apply Array.ext'
      simp [List.extract_eq_take_drop]
    exact ⟨_, by simp [part, hag, sizeOf, typeInfo, hi, hin, hex], h1⟩
  · have hcell : cs[off]? = some u := by
      have := congrArg (·[0]?) hxs
      simp only [List.getElem?_take, List.getElem?_drop, Nat.add_zero, List.getElem?_cons_zero] at this
      split at this
      · simpa using this
      · cases this
    exact ⟨u, by simp [part, rowTy_agg hrow, hcell], h1⟩
theorem run_items {e : TypeId} (hu : P.underlying e = some (.int .u8)) (d : Nat) (a b : List UInt8) (w : World) : ∀ is : List Nat, (∀ i ∈ is, i < a.length ∧ i < b.length) →
    (Op.eqItems (d + 1) e 1 (a.map u8w).toArray (b.map u8w).toArray is).run P w = .ok (is.all fun i => a.getD i 0 == b.getD i 0) w
  | [], _ => by simp [Op.eqItems]
  | i :: is, h => by
    obtain ⟨h1, h2⟩ := h i (by simp)
    have hag : (isAgg e).run P w = .ok false w := by
      unfold isAgg
      rw [Sem.run_bind, run_underlying hu w]
      rfl
    have p1 : (part e (a.map u8w).toArray (i * 1)).run P w = .ok (u8w (a.getD i 0)) w := by
      have := u8w_getD a i h1
      simp [part, hag, List.getElem?_eq_getElem h1]
    have p2 : (part e (b.map u8w).toArray (i * 1)).run P w = .ok (u8w (b.getD i 0)) w := by
      simp [part, hag, List.getElem?_eq_getElem h2]
    have p3 : (Op.equalIn (d + 1) e (u8w (a.getD i 0)) (u8w (b.getD i 0))).run P w = .ok (a.getD i 0 == b.getD i 0) w := by
      have := run_equalIn_int (P := P) w d e .u8 .u8 ((a.getD i 0).toNat : Int) ((b.getD i 0).toNat : Int) hu
      rw [show u8w (a.getD i 0) = .int .u8 ((a.getD i 0).toNat : Int) from rfl, show u8w (b.getD i 0) = .int .u8 ((b.getD i 0).toNat : Int) from rfl, this]
      congr 1
      rw [Bool.eq_iff_iff, beq_iff_eq, beq_iff_eq]
      constructor
      · intro h; exact UInt8.toNat_inj.1 (by omega)
      · intro h; rw [h]
    rw [Op.eqItems, Sem.run_bind, p1, Result.andThen_ok, Sem.run_bind, p2, Result.andThen_ok, Sem.run_bind, p3, Result.andThen_ok, List.all_cons]
    cases hb : (a.getD i 0 == b.getD i 0) with
    | false => simp
    | true => simpa using run_items hu d a b w is (fun j hj => h j (List.mem_cons_of_mem _ hj))
theorem all_bytes (a b : List UInt8) (n : Nat) (ha : a.length = n) (hb : b.length = n) : ((List.range n).all fun i => a.getD i 0 == b.getD i 0) = (a == b) := by
  rw [Bool.eq_iff_iff]
  simp only [List.all_eq_true, List.mem_range, beq_iff_eq]
  constructor
  · intro h
    apply List.ext_getElem (by omega)
    intro i h1 h2
    have := h i (by omega)
    simpa [List.getD_eq_getElem?_getD, List.getElem?_eq_getElem h1, List.getElem?_eq_getElem h2] using this
  · rintro rfl i _; rfl
theorem RW.lit_inv {C : Ctx} {u v : Value} {x : PW} (h : RW C x v) (hx : x.cells = [.lit u]) : v.cells.toList = [u] := by
  have := h.cells'
  rw [hx] at this
  generalize v.cells.toList = l at this
  cases this with
  | cons h1 h2 => cases h2; cases h1; rfl
theorem eqT_ok {C : Ctx} : ∀ (d : Nat) {t : TypeId} {l m : List PC} {x y : Value} {px py : PW} {r : Bool}, eqT P d t l m = some r → mkW P t l = some px → mkW P t m = some py → RW C px x → RW C py y → ∀ (k : Nat) (w : World), (Op.equalIn (d + (k + 1)) t x y).run P w = .ok r w
  | 0, t, l, m, x, y, px, py, r, h, _, _, _, _, _, _ => by cases h
  | d + 1, t, l, m, x, y, px, py, r, h, hx, hy, rx, ry, k, w => by
    have hlx : px.cells = l := by
      unfold mkW at hx
      split at hx
      · cases hx
      · cases hx; rfl
      · split at hx
        · split at hx
          · cases hx; rfl
          · cases hx
        · cases hx
    have hly : py.cells = m := by
      unfold mkW at hy
      split at hy
      · cases hy
      · cases hy; rfl
      · split at hy
        · split at hy
          · cases hy; rfl
          · cases hy
        · cases hy
    have one : ∀ {c : PC} {v : Value} {q : PW}, isRowTy P t = some false → mkW P t [c] = some q → RW C q v → R C c [v] := by
      intro c v q hi hw hr
      unfold mkW at hw
      rw [hi] at hw
      dsimp only at hw
      split at hw
      · cases hw; cases hr with | one h => exact h
      · cases hw
    rw [show d + 1 + (k + 1) = (d + (k + 1)) + 1 from by omega]
    unfold eqT at h
    cases hu : P.underlying t with
    | none => rw [hu] at h; cases h
    | some dd =>
      rw [hu] at h
      cases dd <;> try (cases h; done)
      · -- bool
        dsimp only at h
        split at h
        · cases h
          have hi : isRowTy P t = some false := by unfold isRowTy; rw [hu]
          have e1 := one hi hx rx
          have e2 := one hi hy ry
          cases e1; cases e2
          exact run_equalIn_bool' w _ t _ _ hu
        · cases h
      · -- int
        dsimp only at h
        split at h
        · split at h
          · rename_i hk
            cases h
            subst hk
            have hi : isRowTy P t = some false := by unfold isRowTy; rw [hu]
            have e1 := one hi hx rx
            have e2 := one hi hy ry
            cases e1; cases e2
            exact run_equalIn_int w _ t _ _ _ _ hu
          · cases h
        · cases h
      · -- string
        dsimp only at h
        split at h
        · cases h
          have hi : isRowTy P t = some false := by unfold isRowTy; rw [hu]
          have e1 := one hi hx rx
          have e2 := one hi hy ry
          cases e1; cases e2
          exact run_equalIn_string w _ t _ _ hu
        · cases h
      · -- array
        rename_i n e
        dsimp only at h
        split at h
        · rename_i n1 a n2 b hue hse
          cases h1 : Nat.beq n n1 <;> cases h2 : Nat.beq n n2 <;> simp only [h1, h2] at h <;> try (cases h; done)
          cases h
          obtain rfl := beqT h1
          obtain rfl := beqT h2
          have hi : isRowTy P t = some true := by unfold isRowTy; rw [hu]
          unfold mkW at hx hy
          rw [hi] at hx hy
          cases hx; cases hy
          cases rx with
          | @agg _ xs hrx =>
            cases ry with
            | @agg _ ys hry =>
              obtain ⟨g1, g2⟩ := hrx.bs1
              obtain ⟨g3, g4⟩ := hry.bs1
              have exs : xs = (a.map u8w).toArray := by apply Array.ext'; simpa using g2
              have eys : ys = (b.map u8w).toArray := by apply Array.ext'; simpa using g4
              obtain ⟨ie, hie, hies⟩ := szOf_info hse
              have hce : P.cellsOf e = 1 := by unfold Program.cellsOf; rw [hie]; simpa using hies
              rw [run_equalIn_array (P := P) w (d + (k + 1)) xs ys hu hie, hce, exs, eys, show d + (k + 1) = (d + k) + 1 from by omega, run_items hue (d + k) a b w _ (fun i hm => by rw [List.mem_range] at hm; omega), all_bytes a b n g1 g3]
        · cases h
      · -- struct
        rename_i fs
        dsimp only at h
        have hst : P.stoodInHeld t = false := by
          cases hst : P.stoodInHeld t with
          | false => rfl
          | true => rw [hst] at h; cases h
        rw [hst] at h
        dsimp only at h
        have hi : isRowTy P t = some true := by unfold isRowTy; rw [hu]
        unfold mkW at hx hy
        rw [hi] at hx hy
        cases hx; cases hy
        cases rx with
        | @agg _ xs hrx =>
          cases ry with
          | @agg _ ys hry =>
            have hfo : P.fieldsOf t = fs := by unfold Program.fieldsOf; rw [hu]
            rw [run_equalIn_struct w (d + (k + 1)) t xs ys (by rw [hfo]; exact hu) hst, hfo]
            clear hfo hu
            generalize fs.toList = fl at h
            induction fl generalizing r with
            | nil => cases h; rfl
            | cons f fl ih =>
              rw [List.foldr_cons] at h
              generalize hacc : List.foldr _ _ fl = acc at h ih
              cases acc <;> cases hnm : (f.name != "_") <;> cases hsz : szOf P f.type <;> simp only [hnm, hsz] at h <;> try (cases h; done)
              rename_i r0 n
              cases hs1 : subPC l f.offset n <;> cases hs2 : subPC m f.offset n <;> simp only [hs1, hs2] at h <;> try (cases h; done)
              rename_i x1 y1
              cases hm1 : mkW P f.type x1 <;> cases hm2 : mkW P f.type y1 <;> cases hq : eqT P d f.type x1 y1 <;> simp only [hm1, hm2, hq] at h <;> try (cases h; done)
              rename_i p1 p2 q
              cases h
              obtain ⟨k1, k2⟩ := hrx.sub hs1
              obtain ⟨k3, k4⟩ := hry.sub hs2
              obtain ⟨v1, e1, w1⟩ := run_part hsz hm1 k1 (by simpa using k2) w
              obtain ⟨v2, e2, w2⟩ := run_part hsz hm2 k3 (by simpa using k4) w
              have e3 := eqT_ok d hq hm1 hm2 w1 w2 k w
              have e4 := ih r0 rfl
              have hne : f.name ≠ "_" := by simpa using hnm
              rw [Op.eqFields, if_pos hne, Sem.run_bind, e1, Result.andThen_ok, Sem.run_bind, e2, Result.andThen_ok, Sem.run_bind, e3, Result.andThen_ok]
              cases q with
              | false => simp
              | true => simpa using e4
end

end Go.Proofs.YtcjlkjcadaaleaaDoor.Pv

/-
  The abstract machine is sound: conversions, make, copy. Plain: no function of the program is named here.
-/
namespace Go.Proofs.YtcjlkjcadaaleaaDoor.Pv
open Go.RowKit

section
variable {P : Program} {A : Amb} {s : St} {a : Act} {w : World} {env : Env} {o : Oper} {K : Act → World → Prop} {Q : Exit → Act → World → Prop} {F : Option Bool → PV → Wr → Prop}
theorem bytesRow_at (b : ByteArray) (cap j : Nat) (hj : j < b.size) : (bytesRow b cap)[j]? = some (u8w (b.data.toList.getD j 0)) := by
  have hsz : b.data.size = b.size := rfl
  unfold bytesRow
  rw [Array.getElem?_append_left (by simpa using by omega)]
  rw [Array.getElem?_map, Array.getElem?_eq_getElem (by omega), List.getD_eq_getElem?_getD, List.getElem?_eq_getElem (by simpa using by omega)]
  rfl
theorem convert_ok (h : GamE A s a w env) {t t' : TypeId} {x : Operand} (ho : o.op = .convert t t' x) {v : PV} (hv : RV (ctxOf A w env) v (a.eval x)) (hk : (convM P t t' v).ok none s F) (hf : Fin A s a o K F) : o.wp P a w K Q := by
  unfold convM at hk
  split at hk
  · rename_i e hs hd
    split at hk
    · rename_i b he
      obtain ⟨hb, hF⟩ := hk
      have hb' : b.size ≤ 9223372036854775807 := hb
      have hx : a.eval x = .string b := hv.lit_inv
      have hrun := run_bytes_of_string (P := P) w t t' e b hs hd he
      have hsz : b.data.toList.length = b.size := by rw [Array.length_toList]; rfl
      have hE : Ext w (w.drew.alloc (.cells (bytesRow b (grownCap w b.size 0 e)) e ((bytesRow b (grownCap w b.size 0 e)).size, (bytesRow b (grownCap w b.size 0 e)).size + 1))) := ((Ext.refl w).drew.alloc _)
      refine wp_of_run (v := .slice (some ⟨w.heap.size, 0, none⟩) b.size (grownCap w b.size 0 e)) (by simp [execOp, ho, hx, hrun]) (hf _ _ _ _ env hF (h.ext hE) (.w (.one (.sl (vs := b.data.toList.map u8w) ⟨by rw [List.length_map, hsz, Nat.mul_one], _, _, rfl, grownCap_ge w b.size 0 e, grownCap_le_maxLen w b.size 0 e (by unfold maxLen; omega), fun hn => ⟨w.heap.size, 0, rfl, fun j u hj => ?_⟩⟩ (fun g hg _ => ?_) (fun i hi => byF_cells _ _ i (by omega))))))
      · have hjl : j < b.size := by
          have := (List.getElem?_eq_some_iff.1 hj).1
          simpa [hsz] using this
        rw [Nat.zero_add]
        have hc := cell_of_row (w.drew.alloc (.cells (bytesRow b (grownCap w b.size 0 e)) e ((bytesRow b (grownCap w b.size 0 e)).size, (bytesRow b (grownCap w b.size 0 e)).size + 1))) w.heap.size j _ _ _ (heap_alloc_new w.drew _)
        refine hc.trans ?_
        rw [bytesRow_at b _ j hjl, ← hj, u8w_getD _ j (by omega)]
      · cases hg
        refine ⟨⟨.inr h.chg.size, fun x ver hd he hbl => ?_⟩, by simp [ctxOf]⟩
        exact absurd (h.live x ver hd _ he hbl).1 (Nat.lt_irrefl _)
    · exact hk.elim
  · rename_i e hs hd
    split at hk
    · rename_i he
      obtain ⟨l, hr, hF⟩ := bytesM_ok h hv hk
      obtain ⟨h1, A1, c, e1, h2, h3, h4⟩ := hr
      have hrun : (convert t t' (a.eval x)).run P w = .ok (.string ⟨l.toArray⟩) w := by
        rw [e1]
        cases A1 with
        | none =>
          have hl0 : l = [] := by
            cases l with
            | nil => rfl
            | cons b l =>
              obtain ⟨b', o', e2, _⟩ := h4 (by simp)
              cases e2
          subst hl0
          rw [run_convert_bytes_string w t t' e _ _ c hs he hd]
          simp [Conv.bytesToString]
          rfl
        | some ad =>
          refine run_convert_bytes_back w t t' e ad c l hs he hd (fun j hj => ?_)
          obtain ⟨b', o', e2, hcell⟩ := h4 (by omega)
          cases e2
          rw [add_lit]
          exact hcell j _ (by rw [List.getElem?_map, List.getElem?_eq_getElem hj]; rfl)
      exact wp_of_run (v := .string ⟨l.toArray⟩) (by simp [execOp, ho, hrun]) (hf.same h hF (.w (.one (.lit rfl))))
    · exact hk.elim
  · split at hk
    · rename_i u hl
      obtain ⟨r, h1, h2, hF⟩ := retV_ok hk
      rw [isLit_ok hl] at hv
      refine wp_of_run (v := r) (w' := w) ?_ (hf.same h hF (.w (.one (.lit h2))))
      have hx : a.eval x = u := RV.lit_inv (show RV _ _ _ from hv)
      simp [execOp, ho, hx, pureRun_ok (w := w) h1]
    · exact hk.elim
theorem madeCells_at (z : Array Value) (m i n : Nat) (hz : z.size = n) (h : (i + 1) * n ≤ m) : ((madeCells z m).toList.drop (i * n)).take n = z.toList := by
  rw [Nat.add_mul, Nat.one_mul] at h
  apply List.ext_getElem?
  intro q
  rw [List.getElem?_take, List.getElem?_drop]
  by_cases hq : q < n
  · rw [if_pos hq]
    have e1 : (madeCells z m).toList[i * n + q]? = some z[(i * n + q) % z.size]! := by
      unfold madeCells
      rw [Array.getElem?_toList, Array.getElem?_map, Array.getElem?_range]
      simp
      omega
    rw [e1, hz, Nat.mul_comm, Nat.mul_add_mod, Nat.mod_eq_of_lt hq, Array.getElem?_toList, Array.getElem?_eq_getElem (by omega), getElem!_pos z q (by omega)]
  · rw [if_neg hq, List.getElem?_eq_none (by simp; omega)]
theorem make_ok (h : GamE A s a w env) {nm : Nat} {t : TypeId} {x y : Operand} (ho : o.op = .makeSlice t x y) {lv cv : PV} (hl : RV (ctxOf A w env) lv (a.eval x)) (hc : RV (ctxOf A w env) cv (a.eval y)) (hk : (makeM P nm t lv cv).ok none s F) (hf : Fin A s a o K F) : o.wp P a w K Q := by
  unfold makeM at hk
  split at hk
  · rename_i e n by' k1 l k2 c hsl hlx hly
    split at hk
    · rename_i z0 hz0
      obtain ⟨⟨h0, h1, h2⟩, hF⟩ := hk
      obtain ⟨hu, ⟨i, z, hi, hz, hsz, hby, hzs⟩, hpos, hbp⟩ := slTy_ok hsl
      obtain ⟨i', z', hi', hzz', hr⟩ := zeroPC_ok (C := ctxOf A w env) hz0
      rw [hi] at hi'
      cases hi'
      rw [hz] at hzz'
      cases hzz'
      rw [isLit_ok hlx] at hl
      rw [isLit_ok hly] at hc
      have hx : a.eval x = .int k1 l := RV.lit_inv (show RV _ _ _ from hl)
      have hy : a.eval y = .int k2 c := RV.lit_inv (show RV _ _ _ from hc)
      have hcb : c ≤ (by' : Int) * c := by
        have : (1 : Int) * c ≤ (by' : Int) * c := Int.mul_le_mul_of_nonneg_right (by omega) (by omega)
        omega
      have hrun := run_make (P := P) w t e i z hu hi hz k1 k2 l c h0 h1 (by rw [hby]; omega) (by omega)
      have hlc : (l.toNat) * n ≤ c.toNat * n := Nat.mul_le_mul_right n (by omega)
      have hel : ∀ j, j < l.toNat → RL (ctxOf A w env) ((fun _ => z0) j) ((((madeCells z.cells (c.toNat * i.size)).toList.take (l.toNat * n)).drop (j * n)).take n) := by
        intro j hj
        have hj1 : (j + 1) * n ≤ l.toNat * n := Nat.mul_le_mul_right n hj
        have e1 : (((madeCells z.cells (c.toNat * i.size)).toList.take (l.toNat * n)).drop (j * n)).take n = ((madeCells z.cells (c.toNat * i.size)).toList.drop (j * n)).take n := by
          rw [Nat.add_mul, Nat.one_mul] at hj1
          rw [List.drop_take, List.take_take, Nat.min_eq_left (by omega)]
        rw [e1, madeCells_at z.cells _ j n (by rw [hzs]) (by rw [hsz]; omega)]
        exact hr
      obtain ⟨env', g1, g2⟩ := h.new_row nm e n l.toNat c.toNat (f := fun _ => z0) (cs := madeCells z.cells (c.toNat * i.size)) (xs := (madeCells z.cells (c.toNat * i.size)).toList.take (l.toNat * n))
        (by rw [List.length_take, Array.length_toList, size_madeCells, hsz]; omega) (by omega) (by unfold maxLen; omega) (by rw [size_madeCells, hsz]) rfl hel (w' := w.alloc (.cells (madeCells z.cells (c.toNat * i.size)) e)) ((Ext.refl w).alloc _) (heap_alloc_new w _)
      exact wp_of_run (v := .slice (some ⟨w.heap.size, 0, none⟩) l.toNat c.toNat) (by simp [execOp, ho, hx, hy, hrun]) (hf _ _ _ _ _ hF g1 g2)
    · exact hk.elim
  · exact hk.elim
theorem cpF_elems {C : Ctx} {n tot k : Nat} {f f' : Nat → List PC} {vs news : List Value} (hk : k ≤ tot) (hl : vs.length = tot * n) (hn : news.length = k * n) (h1 : ∀ i, i < tot → RL C (f i) ((vs.drop (i * n)).take n)) (h2 : ∀ i, i < k → RL C (f' i) ((news.drop (i * n)).take n)) :
    ∀ i, i < tot → RL C (cpF k f f' i) (((over vs 0 news).drop (i * n)).take n) := by
  intro i hi
  have hm : k * n ≤ tot * n := Nat.mul_le_mul_right n hk
  unfold cpF
  by_cases h : i < k
  · rw [if_pos h]
    have hm2 : (i + 1) * n ≤ k * n := Nat.mul_le_mul_right n h
    rw [Nat.add_mul, Nat.one_mul] at hm2
    have e1 : ((over vs 0 news).drop (i * n)).take n = (news.drop (i * n)).take n := by
      unfold over
      rw [List.take_zero, List.nil_append, List.drop_append_of_le_length (by omega), List.take_append_of_le_length (by simp; omega)]
    rw [e1]
    exact h2 i h
  · rw [if_neg h, over_window_out (by omega) (.inl (by
      have : k * n ≤ i * n := Nat.mul_le_mul_right n (by omega)
      omega))]
    exact h1 i hi
theorem copy_ok (h : GamE A s a w env) {t : Nat} {x y : Operand} (ho : o.op = .call { callee := .builtin .copy, args := #[x, y], argTypes := #[t, t] }) {p v : PV} (hp : RV (ctxOf A w env) p (a.eval x)) (hv : RV (ctxOf A w env) v (a.eval y)) (hk : (copyM P t p v).ok none s F) (hf : Fin A s a o K F) : o.wp P a w K Q := by
  unfold copyM at hk
  split at hk
  · rename_i e n by' x1 ver n' off len hsl
    obtain ⟨hu, ⟨ie, z, hie, hz, hsz, hby, hzs⟩, hpos, hbp⟩ := slTy_ok hsl
    obtain ⟨g, vr, ob, hfo, hk⟩ := hk
    have hk2 := guardT_ok hk
    clear hk
    obtain ⟨hg, hk⟩ := hk2
    obtain ⟨hd, hev, hob⟩ := obj_at h hfo hg
    cases hb : Nat.beq ver vr <;> cases hb2 : Nat.beq n n' <;> cases hb3 : Nat.beq off 0 <;> cases ob <;> simp only [hb, hb2, hb3] at hk <;> try exact hk.elim
    rename_i e' m tot f
    obtain rfl := beqT hb
    obtain rfl := beqT hb2
    obtain rfl := beqT hb3
    cases hb4 : Nat.beq n m <;> cases hb5 : Nat.beq e e' <;> simp only [hb4, hb5] at hk <;> try exact hk.elim
    obtain rfl := beqT hb4
    obtain rfl := beqT hb5
    obtain ⟨htot, hk⟩ := hk
    have htot' : len = tot := htot
    have hk2 := src_ok h hv hk
    clear hk
    obtain ⟨k, f', news, hrd, hel', hk⟩ := hk2
    have hF := hk.2
    obtain ⟨A0, n0, c0, rfl, hle0, hxv⟩ := hp.ow_inv hev
    obtain ⟨vs, hown, hel⟩ := hob
    obtain ⟨g1, A1, c1, e1, g2, g3, g4⟩ := hrd
    have hkm : min k tot * n ≤ k * n := Nat.mul_le_mul_right n (by omega)
    have hkt : min k tot * n ≤ tot * n := Nat.mul_le_mul_right n (by omega)
    rcases hown.2 with ⟨e0, ht0⟩ | ⟨g', cap, cur, e0, hbs, hgg, hnc, hcm, hcs, htake⟩
    · -- an empty row
      cases e0
      have hl0 : len = 0 := by omega
      have ht : tot = 0 := by omega
      subst hl0
      have hxv' : a.eval x = .slice none 0 0 := by rw [hxv]; rfl
      have hrun : (Builtin.copy_ #[t, t] o.type #[a.eval x, a.eval y]).run P w = .ok (goInt 0) w := by
        rw [hxv', e1]
        cases A1 with
        | none => simp [Builtin.copy_, run_underlying hu, Builtin.lenOf, Builtin.firstCells, sizeOf, typeInfo, hie]
        | some ad => simp [Builtin.copy_, run_underlying hu, Builtin.lenOf, Builtin.firstCells, sizeOf, typeInfo, hie, loadCells, loadCellsFrom]
      have hm0 : min k tot = 0 := by omega
      obtain ⟨hg1, hle⟩ := h.upd x1 none ver (.slice none 0 0) (.arr e n tot (cpF (min k tot) f f')) (Chg.refl _ _) (fun v hd' e0 => by rw [hev] at e0; cases e0; exact .inr ⟨rfl, rfl⟩) (fun b hb => by cases hb) (fun hle _ => ⟨vs, by rw [ht] at hown ⊢; exact hown, fun i hi => by omega⟩)
      refine wp_of_run (v := .int .i64 0) (w' := w) ?_ (hf _ _ _ _ _ hF hg1 (.w (.one ?_)))
      · simp only [execOp, ho, resolve, invoke, builtin, Sem.run_bind, Sem.run_pure, Result.andThen_ok, List.map_toArray, List.map_cons, List.map_nil, hrun]
        rfl
      · rw [hm0]; exact .lit rfl
    · cases e0
      have hxv' : a.eval x = .slice (some ⟨g', 0, none⟩) tot c0 := by
        rw [hxv]
        simp [add_lit, htot']
      have hnl : (news.take (min k tot * n)).length = min k tot * n := by rw [List.length_take]; omega
      have hB : Blk w g' e cur := hgg
      have hcap : tot * n ≤ c0 * n := Nat.mul_le_mul_right n hnc
      have hload : (Builtin.firstCells n (min k tot) (a.eval y)).run P w = .ok (news.take (min k tot * n)).toArray w := by
        rw [e1]
        cases A1 with
        | none =>
          have hk0 : k = 0 := by
            rcases Nat.eq_zero_or_pos k with h0 | h0
            · exact h0
            · obtain ⟨b, o1, e2, _⟩ := g4 h0
              cases e2
          subst hk0
          simp [Builtin.firstCells]
        | some ad =>
          have hcells : ∀ j u, (news.take (min k tot * n))[j]? = some u → w.cell? (ad.add j) = some u := by
            intro j u hj
            rw [List.getElem?_take] at hj
            split at hj
            · rename_i hlt
              obtain ⟨b, o1, e2, hc⟩ := g4 (by
                rcases Nat.eq_zero_or_pos k with h0 | h0
                · subst h0; simp at hlt
                · exact h0)
              cases e2
              rw [add_lit]
              exact hc j u hj
            · cases hj
          have := run_loadCells_list (P := P) w ad (news.take (min k tot * n)) hcells
          rw [hnl] at this
          exact this
      have hones := ones_of_elems g1 hel'
      have hstore : (storeCells ⟨g', 0, none⟩ (news.take (min k tot * n))).run P w = .ok () (w.setCells g' 0 (news.take (min k tot * n))) := by
        have hth := there_of_blk hB 0 (tot * n) (by omega)
        have := run_storeCells_cells (P := P) g' 0 (news.take (min k tot * n)) 0 w (fun j hj => by have := (hth (0 + j) (by omega)).1; simpa using this) (fun j hj => by simpa using hB.frozen _) (fun v hv => hones v (List.mem_of_mem_take hv))
        simpa using this
      have hrun : (Builtin.copy_ #[t, t] o.type #[a.eval x, a.eval y]).run P w = .ok (goInt (min k tot : Nat)) (w.setCells g' 0 (news.take (min k tot * n))) := by
        have hlen : (Builtin.lenOf (a.eval y)).run P w = .ok k w := by rw [e1]; rfl
        rw [hxv']
        simp only [Builtin.copy_]
        simp [run_underlying hu, hlen, sizeOf, typeInfo, hie, hsz, show Nat.min k tot = min k tot from rfl, hload, hstore]
      have hc := (setCells_chg g' (news.take (min k tot * n)) 0 w).1
      have hsz2 := (setCells_chg g' (news.take (min k tot * n)) 0 w).2
      have hnew : (w.setCells g' 0 (news.take (min k tot * n))).ownsRow 0 e n (.slice (some ⟨g', 0, none⟩) tot c0) tot (over vs 0 (news.take (min k tot * n))) := by
        refine ⟨by rw [over_length (by rw [hnl, hown.1]; omega)]; exact hown.1, .inr ⟨g', c0, (over cur.toList 0 (news.take (min k tot * n))).toArray, rfl, hbs, blk_over hB _ _ (by omega), hnc, hcm, ?_, ?_⟩⟩
        · rw [List.size_toArray, over_length (by rw [hnl, Array.length_toList]; omega), Array.length_toList, hcs]
        · rw [← htake]
          exact over_takeT (by omega) (by rw [Array.length_toList]; omega)
      obtain ⟨hgam, hle⟩ := h.upd x1 none ver (.slice (some ⟨g', 0, none⟩) tot c0) (.arr e n tot (cpF (min k tot) f f')) (hc.mono fun b _ e => ⟨ver, _, hev, by rw [e]; rfl⟩) (fun v hd e => by rw [hev] at e; cases e; exact .inr ⟨rfl, rfl⟩) (fun b' hb' => by cases hb'; exact ⟨by rw [hsz2]; exact hB.lt, .inr ⟨ver, _, hev, rfl⟩⟩)
        (fun hle _ => ⟨_, hnew, cpF_elems (Nat.min_le_right _ _) hown.1 hnl (fun i hi => (hel i hi).le hle) (fun i hi => by
          have hi1 : (i + 1) * n ≤ min k tot * n := Nat.mul_le_mul_right n hi
          rw [Nat.add_mul, Nat.one_mul] at hi1
          rw [List.drop_take, List.take_take, Nat.min_eq_left (show n ≤ min k tot * n - i * n by omega)]
          exact (hel' i (by omega)).le hle)⟩)
      refine wp_of_run (v := .int .i64 (min k tot : Nat)) (w' := w.setCells g' 0 (news.take (min k tot * n))) ?_ (hf _ _ _ _ _ hF hgam (.w (.one (.lit rfl))))
      simp only [execOp, ho, resolve, invoke, builtin, Sem.run_bind, Sem.run_pure, Result.andThen_ok, List.map_toArray, List.map_cons, List.map_nil, hrun]
      rfl
  · exact hk.elim
end

end Go.Proofs.YtcjlkjcadaaleaaDoor.Pv

/-
  The abstract machine is sound: calls, and all operations together. Plain: no function of the program is named here.
-/
namespace Go.Proofs.YtcjlkjcadaaleaaDoor.Pv
open Go.RowKit

def Vals (C : Ctx) : List PV → List Value → Prop
  | [], [] => True
  | v :: vs, x :: l => RV C v x ∧ Vals C vs l
  | _, _ => False
theorem Vals.append {C : Ctx} : ∀ {vs : List PV} {l : List Value} {vs' : List PV} {l' : List Value}, Vals C vs l → Vals C vs' l' → Vals C (vs ++ vs') (l ++ l')
  | [], [], _, _, _, h => h
  | [], _ :: _, _, _, h, _ => h.elim
  | _ :: _, [], _, _, h, _ => h.elim
  | _ :: _, _ :: _, _, _, ⟨h1, h2⟩, h => ⟨h1, h2.append h⟩
theorem Vals.of_pcs {C : Ctx} : ∀ {cs : List PC} {l : List Value}, RL C cs l → (cs.all fun c => Nat.beq c.width 1) = true → Vals C (cs.map pv1) l
  | [], l, h, _ => by cases h; exact trivial
  | c :: cs, l, h, hw => by
    rw [List.all_cons, Bool.and_eq_true] at hw
    cases h with
    | @cons _ _ _ xs ys h1 h2 =>
      have hl := h1.width
      rw [beqT hw.1] at hl
      match xs, hl, h1 with
      | [v], _, h1 => exact ⟨.w (.one h1), Vals.of_pcs h2 hw.2⟩
theorem ValsR.vals {C : Ctx} {a : Act} : ∀ {vs : List PV} {l : List Operand}, ValsR C a vs l → Vals C vs (l.map a.eval)
  | [], [], _ => trivial
  | [], _ :: _, h => h.elim
  | _ :: _, [], h => h.elim
  | _ :: _, _ :: _, ⟨h1, h2⟩ => ⟨h1, h2.vals⟩

/-- What a function's specification promises. -/
structure SpecOk (P : Program) (I : World → Prop) (f : Nat) (sp : Spec) : Prop where
  enters : ∀ args w, (callFunc f args).run P w = .ok (.enter f args) w
  calls : ∀ (A : Amb) (s : St) (a : Act) (w : World) (env : Env) (nm : Nat) (pvs : List PV) (vs : List Value) (F : Option Bool → PV → Wr → Prop), GamE A s a w env → I w → Vals (ctxOf A w env) pvs vs → (sp nm pvs).ok none s F →
    Calls P f vs.toArray w fun e w' => ∃ v wr val env', e = .returned val ∧ F none v wr ∧ GamE A { s with o := wr ++ s.o } a w' env' ∧ RV (ctxOf A w' env') v val
def SpecsOk (P : Program) (I : World → Prop) (G : Specs) : Prop := ∀ f sp, G f = some sp → SpecOk P I f sp

section
variable {P : Program} {I : World → Prop} {G : Specs} {A : Amb} {s : St} {a : Act} {w : World} {env : Env} {o : Oper} {K : Act → World → Prop} {Q : Exit → Act → World → Prop} {F : Option Bool → PV → Wr → Prop}
theorem call_ok (hG : SpecsOk P I G) (hI : I w) (h : GamE A s a w env) {nm : Nat} {f : Operand} {args : Array Operand} {tys : Array TypeId} (ho : o.op = .call { callee := .value f, args := args, argTypes := tys }) {fv : PV} (hfv : RV (ctxOf A w env) fv (a.eval f)) {xs : List PV} (hxs : ValsR (ctxOf A w env) a xs args.toList)
    (hk : (callM G nm fv xs).ok none s F) (hf : Fin A s a o K F) : o.wp P a w K Q := by
  have fin : ∀ (g : Nat) (sp : Spec) (pvs : List PV) (vs : List Value), G g = some sp → Vals (ctxOf A w env) pvs vs → (sp nm pvs).ok none s F → (execOp a.eval o).run P w = (callFunc g vs.toArray).run P w → o.wp P a w K Q := by
    intro g sp pvs vs hg hv hk hrun
    have hs := hG g sp hg
    unfold Oper.wp
    rw [hrun, hs.enters, Oper.upon_enter]
    refine (hs.calls A s a w env nm pvs vs F h hI hv hk).mono ?_
    rintro e w' ⟨v, wr, val, env', rfl, h1, h2, h3⟩
    exact hf v wr val w' env' h1 h2 h3
  unfold callM at hk
  split at hk
  · rename_i g first cap
    split at hk
    · rename_i sp h1 h2 h3
      have hfe := hfv.lit_inv
      have e1 : first = #[] := by apply Array.ext'; simpa using h1
      have e2 : cap = #[] := by apply Array.ext'; simpa using h2
      subst e1 e2
      refine fin g sp xs (args.toList.map a.eval) h3 hxs.vals hk ?_
      have e3 : (args.toList.map a.eval).toArray = args.map a.eval := by apply Array.ext'; simp
      rw [e3]
      simp [execOp, ho, resolve, hfe, Deferred.ofValue, invoke]
    · exact hk.elim
  · rename_i g first cap
    split at hk
    · rename_i sp h1 h2 h3
      have hin := hfv.inv
      generalize hq : a.eval f = q at hin
      cases hin with
      | @fn _ _ _ _ fs cs r1 r2 =>
        refine fin g sp _ (fs ++ args.toList.map a.eval ++ cs) h1 (((Vals.of_pcs r1 h2).append hxs.vals).append (Vals.of_pcs r2 h3)) hk ?_
        have e3 : (fs ++ args.toList.map a.eval ++ cs).toArray = fs.toArray ++ args.map a.eval ++ cs.toArray := by apply Array.ext'; simp
        rw [e3]
        simp [execOp, ho, resolve, hq, Deferred.ofValue, invoke]
    · exact hk.elim
  · exact hk.elim
theorem guardM_ok {t : TypeId} {k : M} (hk : (guardM P t k).ok none s F) : P.eqGuardType P.depth t = false ∧ k.ok none s F := by
  unfold guardM at hk
  split at hk
  · split at hk
    · rename_i h2
      exact ⟨h2, hk⟩
    · exact hk.elim
  · exact hk
theorem bin_ok (h : GamE A s a w env) {op : BinOp} {t ty : TypeId} {x y : Operand} (ho : o.op = .binOp op t x y ty) {p q : PV} (hp : RV (ctxOf A w env) p (a.eval x)) (hq : RV (ctxOf A w env) q (a.eval y)) (hk : (binM P op t x y p q).ok none s F) (hf : Fin A s a o K F) : o.wp P a w K Q := by
  have hstep : ∀ v, (do eqGuard op t x y (a.eval x) (a.eval y); binOp op t (a.eval x) (a.eval y) : Sem Value).run P w = .ok v w → (execOp a.eval o).run P w = .ok (.value v) w := fun v hr => by
    simp only [execOp, ho, Sem.run_bind] at hr ⊢
    rw [hr]
    simp
  unfold binM at hk
  split at hk
  · rename_i va vb
    have e1 := hp.lit_inv
    have e2 := hq.lit_inv
    rw [e1, e2] at hstep
    split at hk
    · split at hk
      · rename_i hkk
        subst hkk
        obtain ⟨h0, hF⟩ := hk
        have h0' : ¬ _ = (0 : Int) := h0
        exact wp_of_run (hstep _ (by simp [eqGuard, binOp, Op.intDiv, h0'])) (hf.same h hF (.w (.one (.lit rfl))))
      · exact hk.elim
    · split at hk
      · rename_i hkk
        subst hkk
        obtain ⟨h0, hF⟩ := hk
        have h0' : ¬ _ = (0 : Int) := h0
        exact wp_of_run (hstep _ (by simp [eqGuard, binOp, Op.intDiv, h0'])) (hf.same h hF (.w (.one (.lit rfl))))
      · exact hk.elim
    · obtain ⟨h0, hF⟩ := hk
      have h0' : ¬ _ < (0 : Int) := Int.not_lt.2 h0
      exact wp_of_run (hstep _ (by simp [eqGuard, binOp, Op.shift, h0'])) (hf.same h hF (.w (.one (.lit rfl))))
    · obtain ⟨h0, hF⟩ := hk
      have h0' : ¬ _ < (0 : Int) := Int.not_lt.2 h0
      exact wp_of_run (hstep _ (by simp [eqGuard, binOp, Op.shift, h0'])) (hf.same h hF (.w (.one (.lit rfl))))
    · obtain ⟨h0, hF⟩ := hk
      refine wp_of_run (hstep _ ?_) (hf.same h hF (.w (.one (.lit rfl))))
      rename_i m n
      have h1 : ¬ (((m.size + n.size : Nat) : Int) > IntKind.i64.max) := by
        have : m.size + n.size ≤ 9223372036854775807 := h0
        have e : IntKind.i64.max = 9223372036854775807 := by decide
        rw [e]; omega
      simp only [eqGuard, binOp, Op.stringOp, Sem.run_bind]
      rw [if_neg h1]
      rfl
    · obtain ⟨r, h1, h2, hF⟩ := retV_ok hk
      exact wp_of_run (hstep r (pureRun_ok h1)) (hf.same h hF (.w (.one (.lit h2))))
  · rename_i l m
    have key : ∀ r, eqT P 8 t l m = some r → isRowTy P t = some true → ∃ xs ys, a.eval x = .agg xs ∧ a.eval y = .agg ys ∧ (Op.equalIn 10000 t (.agg xs) (.agg ys)).run P w = .ok r w := by
      intro r hr hi
      have e1 : mkW P t l = some (.agg l) := by unfold mkW; rw [hi]
      have e2 : mkW P t m = some (.agg m) := by unfold mkW; rw [hi]
      generalize a.eval x = vx at hp
      generalize a.eval y = vy at hq
      cases hp with
      | w hp => cases hp with
        | @agg _ xs h1 => cases hq with
          | w hq => cases hq with
            | @agg _ ys h2 => exact ⟨xs, ys, rfl, rfl, eqT_ok 8 hr e1 e2 (.agg h1) (.agg h2) 9991 w⟩
    split at hk
    · rename_i r h1 h3
      obtain ⟨h2, hk⟩ := guardM_ok hk
      obtain ⟨xs, ys, e1, e2, e3⟩ := key r h1 h3
      rw [e1, e2] at hstep
      refine wp_of_run (hstep (.bool r) ?_) (hf.same h hk (.w (.one (.lit rfl))))
      rw [Sem.run_bind, run_eqGuard_agg w _ t x y xs ys h2, Result.andThen_ok, run_eql_struct w t xs ys, e3, Result.andThen_ok]
    · rename_i r h1 h3
      obtain ⟨h2, hk⟩ := guardM_ok hk
      obtain ⟨xs, ys, e1, e2, e3⟩ := key r h1 h3
      rw [e1, e2] at hstep
      refine wp_of_run (hstep (.bool (!r)) ?_) (hf.same h hk (.w (.one (.lit rfl))))
      rw [Sem.run_bind, run_eqGuard_agg w _ t x y xs ys h2, Result.andThen_ok, run_neq_struct w t xs ys, e3, Result.andThen_ok]
    · exact hk.elim
  · exact hk.elim

/-- Every operation. -/
theorem body_ok (hG : SpecsOk P I G) (hI : I w) (h : GamE A s a w env) {nm : Nat} (hk : (body P G nm o).ok none s F) (hf : Fin A s a o K F) : o.wp P a w K Q := by
  obtain ⟨dst, op, ty, pos, after, guard⟩ := o
  unfold body at hk
  dsimp only at hk
  split at hk
  · exact move_ok h (.inl rfl) hk hf
  · exact move_ok h (.inr rfl) hk hf
  · exact pick_ok h rfl hk hf
  · split at hk
    · rename_i l hz
      exact alloc_ok h rfl hz hk hf
    · exact hk.elim
  · obtain ⟨pv, hp, hk⟩ := evO_ok h hk
    split at hk
    · split at hk
      · cases hp with | w hp => exact box_ok h rfl hp hk hf
      · exact hk.elim
    · exact hk.elim
  · obtain ⟨pv, hp, hk⟩ := evO_ok h hk
    exact load_ok h rfl hp hk hf
  · obtain ⟨pv, hp, hk⟩ := evO_ok h hk
    obtain ⟨qv, hq, hk⟩ := evO_ok h hk
    exact store_ok h rfl hp hq hk hf
  · obtain ⟨pv, hp, hk⟩ := evO_ok h hk
    exact fieldAddr_ok h rfl hp hk hf
  · obtain ⟨pv, hp, hk⟩ := evO_ok h hk
    obtain ⟨qv, hq, hk⟩ := evO_ok h hk
    exact indexAddr_ok h rfl hp hq hk hf
  · obtain ⟨pv, hp, hk⟩ := evO_ok h hk
    exact field_ok h rfl hp hk hf
  · obtain ⟨pv, hp, hk⟩ := evO_ok h hk
    exact extract_ok h rfl hp hk hf
  · obtain ⟨vs, hp, hk⟩ := evParts_ok h hk
    split at hk
    · rename_i l hz
      exact build_ok h rfl hp hz hk hf
    · exact hk.elim
  · obtain ⟨vs, hp, hk⟩ := evParts_ok h hk
    exact buildSlice_ok h rfl hp hk hf
  · obtain ⟨pv, hp, hk⟩ := evO_ok h hk
    obtain ⟨lv, hl, hk⟩ := evOpt_ok h hk
    obtain ⟨hv, hh, hk⟩ := evOpt_ok h hk
    exact slice_ok h rfl hp hl hh hk hf
  · obtain ⟨pv, hp, hk⟩ := evO_ok h hk
    obtain ⟨qv, hq, hk⟩ := evO_ok h hk
    exact bin_ok h rfl hp hq hk hf
  · obtain ⟨pv, hp, hk⟩ := evO_ok h hk
    split at hk
    · rename_i v hl
      exact unOp_ok h rfl hp hl hk hf
    · exact hk.elim
  · obtain ⟨pv, hp, hk⟩ := evO_ok h hk
    exact convert_ok h rfl hp hk hf
  · obtain ⟨pv, hp, hk⟩ := evO_ok h hk
    obtain ⟨qv, hq, hk⟩ := evO_ok h hk
    exact make_ok h rfl hp hq hk hf
  · rename_i args tys
    split at hk
    · rename_i x y t t' e1 e2
      split at hk
      · rename_i hb
        obtain rfl := beqT hb
        obtain ⟨pv, hp, hk⟩ := evO_ok h hk
        obtain ⟨qv, hq, hk⟩ := evO_ok h hk
        obtain rfl : args = #[x, y] := by apply Array.ext'; simpa using e1
        obtain rfl : tys = #[t, t] := by apply Array.ext'; simpa using e2
        exact copy_ok h rfl hp hq hk hf
      · exact hk.elim
    · exact hk.elim
  · obtain ⟨fs, hfs, hk⟩ := evAll_ok h hk
    obtain ⟨cs, hcs, hk⟩ := evAll_ok h hk
    split at hk
    · rename_i fp cp h1 h2
      exact makeFunc_ok h rfl hfs hcs h1 h2 hk hf
    · exact hk.elim
  · rename_i f args tys
    obtain ⟨fv, hfv, hk⟩ := evO_ok h hk
    obtain ⟨xs, hxs, hk⟩ := evAll_ok h hk
    exact call_ok hG hI h rfl hfv hxs hk hf
  · rename_i args tys
    split at hk
    · rename_i x t e1 e2
      obtain ⟨pv, hp, hk⟩ := evO_ok h hk
      obtain rfl : args = #[x] := by apply Array.ext'; simpa using e1
      obtain rfl : tys = #[t] := by apply Array.ext'; simpa using e2
      exact len_ok h rfl hp hk hf
    · exact hk.elim
  · rename_i args tys
    split at hk
    · rename_i x y t t' e1 e2
      split at hk
      · rename_i hb
        obtain rfl := beqT hb
        obtain ⟨pv, hp, hk⟩ := evO_ok h hk
        obtain ⟨qv, hq, hk⟩ := evO_ok h hk
        obtain rfl : args = #[x, y] := by apply Array.ext'; simpa using e1
        obtain rfl : tys = #[t, t] := by apply Array.ext'; simpa using e2
        exact append_ok h rfl hp hq hk hf
      · exact hk.elim
    · exact hk.elim
  · exact hk.elim
/-- Every operation of a region, guarded or not. -/
theorem ops_ok (hG : SpecsOk P I G) (hI : ∀ w, Chg A.S A.w0 w → I w) (rid : Nat) (ops : Array Oper) (hd : ∀ (i : Nat) (o : Oper) d, ops[i]? = some o → o.dst = some d → d < A.nt) : OpsOk P ops Q (Gam A) (mopOf P G rid ops.toList) := by
  intro i o s a w out ho hg hrun hc K hK
  have hmo := M.ok_of_run _ none s out (fun g v wr => ∀ a' w', Gam A (appW o.dst g v wr s) a' w' → K a' w') hrun hc (fun a' w' h => hK a' w' ((gam_finds A) _ _ _ _ (fun _ => rfl) (fun _ => rfl) h))
  obtain ⟨env, hE⟩ := hg
  have hIw := hI w hE.chg
  have hfin : ∀ (F : Option Bool → PV → Wr → Prop), (∀ v wr, F none v wr → ∀ a' w', Gam A (appW o.dst none v wr s) a' w' → K a' w') → Fin A s a o K F := by
    intro F hF v wr val w' env' h1 h2 h3
    refine hF v wr h1 _ _ ⟨env', ?_⟩
    have := h2.put o.dst none v val (fun t ht => hd i o t ho ht) (fun _ => h3)
    have e : appW o.dst none v wr s = putS o.dst none v { s with o := wr ++ s.o } := by unfold appW app putS; cases o.dst <;> rfl
    rw [e]
    exact this
  unfold wpOp
  rw [ho]
  dsimp only
  unfold mopOf at hmo
  cases hgd : o.guard with
  | none =>
    rw [hgd] at hmo
    have hw : Region.wanted o (yielded ops a.tmps) = true := by simp [Region.wanted, hgd]
    rw [if_pos hw]
    exact .inl (body_ok hG hIw hE hmo (hfin _ fun v wr h => h))
  | some jp =>
    obtain ⟨j, pol⟩ := jp
    rw [hgd] at hmo
    dsimp only at hmo
    cases hj : (ops.toList[j]?).bind (·.dst) with
    | none => rw [hj] at hmo; exact hmo.elim
    | some tj =>
      rw [hj] at hmo
      obtain ⟨g, v, hfv, hmo⟩ := hmo
      have hm2 := guardT_ok hmo
      clear hmo
      obtain ⟨hgT, hmo⟩ := hm2
      split at hmo
      · rename_i b
        obtain ⟨val, h1, h2⟩ := hE.tmps tj g _ hfv hgT
        have hval := h2.bool_inv
        subst hval
        have hyd : yielded ops a.tmps j = some b := by
          unfold yielded
          have : (ops[j]?).bind (·.dst) = some tj := by simpa using hj
          rw [this]
          simp [h1]
        have hwant : Region.wanted o (yielded ops a.tmps) = polB pol b := by
          have e : Region.wanted o (yielded ops a.tmps) = (yielded ops a.tmps j == some pol) := by simp [Region.wanted, hgd]
          rw [e, hyd]
          cases pol <;> cases b <;> rfl
        obtain ⟨_, hmo⟩ := hmo
        cases hb : polB pol b with
        | true =>
          rw [hb] at hwant hmo
          rw [if_pos hwant]
          refine .inl (body_ok hG hIw hE (gate_true _ s _ hmo) (hfin _ fun v wr h => ?_))
          intro a' w' hgam
          exact h.2.2 a' w' (hgam.gated h.2.1)
        | false =>
          rw [hb] at hwant hmo
          rw [if_neg (by rw [hwant]; exact Bool.false_ne_true)]
          obtain ⟨v, wr, h1, h2⟩ := gate_false _ s _ hmo
          obtain ⟨env', h3⟩ := GamE.vain wr s env hE h2
          refine h1 _ _ ⟨env', ?_⟩
          have := h3.put o.dst (some false) v undef (fun t ht => hd i o t ho ht) (fun hg => absurd hg (by simp [gT]))
          have e : appW o.dst (some false) v wr s = putS o.dst (some false) v { s with o := wr ++ s.o } := by unfold appW app putS; cases o.dst <;> rfl
          rw [e]
          exact this
      · exact hmo.elim
end

end Go.Proofs.YtcjlkjcadaaleaaDoor.Pv

/-
  The abstract machine: code, functions. Plain: no function of the program is named here.
-/
namespace Go.Proofs.YtcjlkjcadaaleaaDoor.Pv
open Go.RowKit

/-- From state s, code c comes to what Q asks. -/
def Tri (P : Program) (A : Amb) (s : St) (c : Code) (Q : Exit → Act → World → Prop) : Prop := ∀ a w, Gam A s a w → c.wp P Q a w
/-- What stands behind code: from state s, whatever frame and world. -/
def Aft (A : Amb) (s : St) (Q : Act → World → Prop) : Prop := ∀ a w, Gam A s a w → Q a w

/-- A machine that is set up: the program, what the memory of the package's variables says, the functions' specifications. -/
structure Mach (P : Program) (I : World → Prop) (G : Specs) : Prop where
  specs : SpecsOk P I G
  mixed : P.follows .mixedOrders = true
def dstsB (nt : Nat) (l : List Oper) : Bool := l.all fun o => match o.dst with
  | some d => Nat.blt d nt
  | none => true
def freshK (s : St) (x : Nat) (k : Nat → Option Out) : Option Out := match find s.o x with
  | some (_, vr, _) => k (vr + 1)
  | none => k 0
theorem freshK_eq (s : St) (x : Nat) (k : Nat → Option Out) : freshK s x k = k (fresh s x) := by
  unfold freshK fresh
  cases find s.o x with
  | none => rfl
  | some p => rfl
/-- The same run, with what it gathers handed along. -/
def M.exec : M → Option Bool → St → List Prop → List Nat → List Nat → Wr → Option Out
  | .ret v, h, _, c, rt, ro, wr => some ⟨h, v, c, rt, ro, wr⟩
  | .fail, _, _, _, _, _, _ => none
  | .need p k, h, s, c, rt, ro, wr => k.exec h s (c ++ [hP h p]) rt ro wr
  | .tmp t k, h, s, c, rt, ro, wr => match find s.t t with
    | some (g, v) => (k g v).exec h s c (rt ++ [t]) ro wr
    | none => none
  | .obj x k, h, s, c, rt, ro, wr => match find s.o x with
    | some (g, vr, ob) => (k g vr ob).exec h s c rt (ro ++ [x]) wr
    | none => none
  | .new x ob k, h, s, c, rt, ro, wr => freshK s x fun v => (k v).exec h s c rt (ro ++ [x]) (wr ++ [(x, h, v, ob)])
  | .upd x vr ob k, h, s, c, rt, ro, wr => match h with
    | none => k.exec none s c rt ro (wr ++ [(x, none, vr, ob)])
    | some _ => none
  | .gate b k, h, s, c, rt, ro, wr => match h with
    | none => k.exec (some b) s c rt ro wr
    | some _ => none
def addTo (c : List Prop) (rt ro : List Nat) (wr : Wr) (o : Out) : Out := ⟨o.g, o.val, c ++ o.conds, rt ++ o.rt, ro ++ o.ro, wr ++ o.wr⟩
theorem exec_eq : ∀ (m : M) (h : Option Bool) (s : St) (c : List Prop) (rt ro : List Nat) (wr : Wr), m.exec h s c rt ro wr = (m.run h s).map (addTo c rt ro wr) := by
  intro m
  induction m with
  | ret v => intro h s c rt ro wr; simp [M.exec, M.run, addTo]
  | fail => intro h s c rt ro wr; rfl
  | need p k ih => intro h s c rt ro wr; rw [M.exec, M.run, ih]; cases k.run h s <;> simp [addTo]
  | tmp t k ih =>
    intro h s c rt ro wr
    rw [M.exec, M.run]
    cases find s.t t with
    | none => rfl
    | some p => obtain ⟨g, v⟩ := p; dsimp only; rw [ih]; cases (k g v).run h s <;> simp [addTo]
  | obj x k ih =>
    intro h s c rt ro wr
    rw [M.exec, M.run]
    cases find s.o x with
    | none => rfl
    | some p => obtain ⟨g, vr, ob⟩ := p; dsimp only; rw [ih]; cases (k g vr ob).run h s <;> simp [addTo]
  | new x ob k ih => intro h s c rt ro wr; rw [M.exec, M.run, freshK_eq, ih]; cases (k (fresh s x)).run h s <;> simp [addTo]
  | upd x vr ob k ih =>
    intro h s c rt ro wr
    cases h with
    | some b => rfl
    | none => rw [M.exec, M.run, ih]; cases k.run none s <;> simp [addTo]
  | gate b k ih =>
    intro h s c rt ro wr
    cases h with
    | some b => rfl
    | none => rw [M.exec, M.run, ih]
theorem exec_nil (m : M) (h : Option Bool) (s : St) : m.exec h s [] [] [] [] = m.run h s := by
  rw [exec_eq]
  cases m.run h s <;> simp [addTo]
def pushW {α : Type} : Wr → Wr → (Wr → α) → α
  | [], o, k => k o
  | p :: l, o, k => pushW l o fun r => k (p :: r)
theorem pushW_eq {α : Type} : ∀ (l o : Wr) (k : Wr → α), pushW l o k = k (l ++ o)
  | [], _, _ => rfl
  | p :: l, o, k => by rw [pushW, pushW_eq l]; rfl
/-- The state behind an operation, handed on in canonical form. -/
def appK {α : Type} (d : Option Nat) (out : Out) (s : St) (k : St → α) : α := match out, s with
  | ⟨g, v, _, _, _, wr⟩, ⟨t, o⟩ => pushW wr o fun o' => match d with
    | some d => k ⟨(d, g, v) :: t, o'⟩
    | none => k ⟨t, o'⟩
theorem appK_eq {α : Type} (d : Option Nat) (out : Out) (s : St) (k : St → α) : appK d out s k = k (app d out s) := by
  obtain ⟨g, v, c, rt, ro, wr⟩ := out
  obtain ⟨t, o⟩ := s
  unfold appK
  dsimp only
  rw [pushW_eq]
  cases d <;> rfl
def runOpsX (mop : Nat → Oper → M) : Nat → List Oper → St → Option (List (Option Nat × Out) × St)
  | _, [], s => some ([], s)
  | i, o :: l, s => match (mop i o).exec none s [] [] [] [] with
    | some out => appK o.dst out s fun s1 => (match runOpsX mop (i + 1) l s1 with
      | some (outs, s') => some ((o.dst, out) :: outs, s')
      | none => none)
    | none => none
theorem runOpsX_eq (mop : Nat → Oper → M) : ∀ (l : List Oper) (i : Nat) (s : St), runOpsX mop i l s = runOps mop i l s
  | [], _, _ => rfl
  | o :: l, i, s => by
    rw [runOpsX, runOps, exec_nil]
    cases (mop i o).run none s with
    | none => rfl
    | some out =>
      dsimp only
      rw [appK_eq, runOpsX_eq mop l]
      rfl
def All : List Prop → Prop
  | [] => True
  | p :: l => p ∧ All l
theorem All.mem : ∀ {l : List Prop}, All l → ∀ p ∈ l, p
  | [], _, p, h => by cases h
  | q :: l, ⟨h1, h2⟩, p, h => by
    rcases List.mem_cons.1 h with rfl | h
    · exact h1
    · exact h2.mem p h

section
variable {P : Program} {I : World → Prop} {G : Specs} {A : Amb} {s s' : St} {Q : Exit → Act → World → Prop}
theorem tri_region (M : Mach P I G) (hI : ∀ w, Chg A.S A.w0 w → I w) {nt : Nat} (hnt : A.nt = nt) {rid : Nat} {ops : Array Oper} {draw : Bool} {outs : List (Option Nat × Out)} (h : runOpsX (mopOf P G rid ops.toList) 0 ops.toList s = some (outs, s')) (hcl : (clashDraw draw ops.toList outs && dstsB nt ops.toList) = true) (hc : All ((outs.map fun q => q.2.conds).flatten)) (hQ : Aft A s' (Q .normal)) : Tri P A s (.region rid ops draw) Q := by
  intro a w hg
  subst hnt
  rw [runOpsX_eq] at h
  rw [Bool.and_eq_true] at hcl
  refine wp_region_pv (ops_ok M.specs hI rid ops (fun i o d ho hd => ?_)) (gam_finds A) (fun s a w h => h.drew) M.mixed h (fun q hq p hp => hc.mem p (List.mem_flatten.2 ⟨_, List.mem_map.2 ⟨q, hq, rfl⟩, hp⟩)) hcl.1 hg (fun a' w' hg' => hQ a' w' hg')
  have := List.all_eq_true.1 hcl.2 o (by rw [← Array.getElem?_toList] at ho; exact List.mem_of_getElem? ho)
  rw [hd] at this
  have h3 : d + 1 ≤ A.nt := by simpa [Nat.blt] using this
  exact h3
theorem tri_seq {x y : Code} (h : Tri P A s x (Exit.then (fun a w => y.wp P Q a w) Q)) : Tri P A s (.seq x y) Q := fun a w hg => wp_seq (h a w hg)
theorem tri_reg (M : Mach P I G) (hI : ∀ w, Chg A.S A.w0 w → I w) {nt : Nat} (hnt : A.nt = nt) {rid : Nat} {ops : Array Oper} {draw : Bool} {outs : List (Option Nat × Out)} {y : Code} (h : runOpsX (mopOf P G rid ops.toList) 0 ops.toList s = some (outs, s')) (hcl : (clashDraw draw ops.toList outs && dstsB nt ops.toList) = true) (hc : All ((outs.map fun q => q.2.conds).flatten)) (hQ : Tri P A s' y Q) : Tri P A s (.seq (.region rid ops draw) y) Q :=
  tri_seq (tri_region M hI hnt h hcl hc (fun a w hg => hQ a w hg))
/-- What a condition is. -/
def condOf (s : St) (c : Operand) : Option Bool := match c with
  | .tmp t => (match find s.t t with
    | some (none, .w (.one (.lit (.bool b)))) => some b
    | _ => none)
  | _ => none
theorem tri_skip (h : Aft A s (Q .normal)) : Tri P A s .skip Q := fun a w hg => wp_skip (h a w hg)
theorem tri_exit {id : Nat} (h : Aft A s (Q (.exit id))) : Tri P A s (.exit id) Q := fun a w hg => wp_exit (h a w hg)
theorem tri_ret (h : Aft A s (Q .ret)) : Tri P A s .ret Q := fun a w hg => wp_ret (h a w hg)
theorem tri_block {id : Nat} {c : Code} (h : Tri P A s c (Exit.inBlock id Q)) : Tri P A s (.block id c) Q := fun a w hg => wp_block (h a w hg)
theorem tri_cond {c : Operand} {x y : Code} {b : Bool} (hc : condOf s c = some b) (h1 : b = true → Tri P A s x Q) (h2 : b = false → Tri P A s y Q) : Tri P A s (.cond c x y) Q := fun a w hg => by
  obtain ⟨env, hE⟩ := hg
  have hv : a.eval c = .bool b := by
    cases c with
    | tmp t =>
      unfold condOf at hc
      dsimp only at hc
      split at hc
      · rename_i b' hf
        cases hc
        obtain ⟨v, h3, h4⟩ := hE.tmps t none _ hf trivial
        have := h4.bool_inv
        subst this
        simp only [Act.eval]
        rw [Array.getD_eq_getD_getElem?, h3]
        rfl
      · cases hc
    | _ => cases hc
  refine wp_cond hv ?_
  cases b with
  | true => exact h1 rfl a w ⟨env, hE⟩
  | false => exact h2 rfl a w ⟨env, hE⟩
theorem tri_conv {c : Code} (h : ∀ a w, Gam A s a w → Gam A s' a w) (hT : Tri P A s' c Q) : Tri P A s c Q := fun a w hg => hT a w (h a w hg)
/-- A loop: round k of n begins in state st k. -/
theorem tri_loop {c : Code} (n : Nat) (J : Nat → St → Prop) (k0 : Nat) (h0 : J k0 s) (hk : k0 ≤ n)
    (round : ∀ k s, J k s → k ≤ n → Tri P A s c (Exit.then (fun a w => ∃ k' s', k < k' ∧ k' ≤ n ∧ J k' s' ∧ Gam A s' a w) Q)) : Tri P A s (.loop c) Q := fun a w hg => by
  refine wp_loop_ghost (fun m a w => ∃ k s, m = n - k ∧ k ≤ n ∧ J k s ∧ Gam A s a w) (n - k0) ⟨k0, s, rfl, hk, h0, hg⟩ (fun m a w hm => ?_)
  obtain ⟨k, s, rfl, hkn, hJ, hg⟩ := hm
  refine wp_mono (round k s hJ hkn a w hg) (fun e a' w' he => ?_)
  cases e <;> first | exact he | skip
  obtain ⟨k', s', h1, h2, h3, h4⟩ := he
  exact ⟨n - k', by omega, k', s', rfl, h2, h3, h4⟩

/-! ### Functions -/
def resS (tmps : Array Value) (r : ResultVar) : Sem Value := match r with
  | .tmp t => pure (tmps.getD t undef)
  | .cell b t => do loadVar t (← asAddr (tmps.getD b undef))
theorem results_eq (fn : Func) (tmps : Array Value) : results fn tmps = (do let vs ← fn.results.mapM (resS tmps); pure (if h : vs.size = 1 then vs[0] else .tuple vs)) := by
  unfold results
  congr 1
theorem resM_ok {a : Act} {w : World} {env : Env} (h : GamE A s a w env) {F : Option Bool → PV → Wr → Prop} : ∀ {rs : List ResultVar} {k : List PW → M}, (resM P rs k).ok none s F →
    ∃ xs vs, (rs.mapM (resS a.tmps)).run P w = .ok vs w ∧ xs.length = vs.length ∧ (∀ (i : Nat) (x : PW), xs[i]? = some x → ∃ v : Value, vs[i]? = some v ∧ RW (ctxOf A w env) x v) ∧ (k xs).ok none s F
  | [], k, hk => ⟨[], [], by simp, rfl, fun i x hx => by simp at hx, hk⟩
  | .tmp t :: rs, k, hk => by
    obtain ⟨pv, hp, hk⟩ := evO_ok h hk
    split at hk
    · rename_i x
      obtain ⟨xs, vs, h1, h2, h3, h4⟩ := resM_ok h hk
      refine ⟨x :: xs, a.tmps.getD t undef :: vs, ?_, by simp [h2], fun i y hy => ?_, h4⟩
      · rw [List.mapM_cons, show resS a.tmps (.tmp t) = pure (a.tmps.getD t undef) from rfl]
        simp only [Sem.run_bind, Sem.run_pure, Result.andThen_ok, h1]
      · cases i with
        | zero =>
          obtain rfl : x = y := by simpa using hy
          cases hp with | w hp => exact ⟨_, rfl, hp⟩
        | succ i => exact h3 i y (by simpa using hy)
    · exact hk.elim
  | .cell b t :: rs, k, hk => by
    obtain ⟨pv, hp, hk⟩ := evO_ok h hk
    obtain ⟨b1, o1, x, val, hv, hrun, hval, hk⟩ := loadK_ok h hp hk
    obtain ⟨xs, vs, h1, h2, h3, h4⟩ := resM_ok h hk
    have hv' : a.tmps.getD b undef = .pointer (some ⟨b1, o1, none⟩) := hv
    have hld : (loadVar t ⟨b1, o1, none⟩).run P w = .ok val w := by
      rw [hv] at hrun
      simpa [Instr.loadAt, Instr.sureAddr] using hrun
    have h0 : (resS a.tmps (.cell b t)).run P w = .ok val w := by
      unfold resS
      simp only [hv', asAddr, Sem.run_bind, Sem.run_pure, Result.andThen_ok, hld]
    refine ⟨x :: xs, val :: vs, ?_, by simp [h2], fun i y hy => ?_, h4⟩
    · rw [List.mapM_cons]
      simp only [Sem.run_bind, Sem.run_pure, Result.andThen_ok, h0, h1]
    · cases i with
      | zero =>
        obtain rfl : x = y := by simpa using hy
        exact ⟨_, rfl, hval⟩
      | succ i => exact h3 i y (by simpa using hy)
theorem retM_ok {a : Act} {w : World} {env : Env} (h : GamE A s a w env) {F : Option Bool → PV → Wr → Prop} {fn : Func} (hk : (retM P fn.results).ok none s F) : ∃ v val, (results fn a.tmps).run P w = .ok val w ∧ RV (ctxOf A w env) v val ∧ F none v [] := by
  unfold retM at hk
  obtain ⟨xs, vs, h1, h2, h3, hk⟩ := resM_ok h hk
  have hm : (fn.results.mapM (resS a.tmps)).run P w = .ok vs.toArray w := by
    rw [Array.mapM_eq_mapM_toList, Sem.run_map, h1]
    rfl
  rw [results_eq]
  simp only [Sem.run_bind, hm, Result.andThen_ok, Sem.run_pure]
  split at hk
  · rename_i x
    match vs, h2, h3 with
    | [v], _, h3 =>
      obtain ⟨v', e, hr⟩ := h3 0 x rfl
      cases e
      exact ⟨_, _, rfl, .w hr, hk⟩
  · rename_i hne
    have hlen : ¬ vs.toArray.size = 1 := by
      intro e
      match xs, h2, hne with
      | [x], _, hne => exact hne x rfl
      | [], h2, _ => simp at e h2; omega
      | _ :: _ :: _, h2, _ => simp at e h2; omega
    rw [dif_neg hlen]
    exact ⟨_, _, rfl, .tup (by simpa using h2) (fun i x hx => by
      obtain ⟨v, e, hr⟩ := h3 i x hx
      exact ⟨v, by simpa using e, hr⟩), hk⟩

/-- The slots at a function's head. -/
def slots : Nat → List PV → List (Nat × Option Bool × PV)
  | _, [] => []
  | i, v :: vs => (i, none, v) :: slots (i + 1) vs
theorem find_slots {i : Nat} : ∀ {vs : List PV} {t : Nat} {g : Option Bool} {pv : PV}, find (slots i vs) t = some (g, pv) → ∃ k, t = i + k ∧ vs[k]? = some pv
  | [], t, g, pv, h => by cases h
  | v :: vs, t, g, pv, h => by
    by_cases ht : i = t
    · subst ht
      rw [slots, find_cons_eq] at h
      cases h
      exact ⟨0, rfl, rfl⟩
    · rw [slots, find_cons_ne _ _ ht] at h
      obtain ⟨k, h1, h2⟩ := find_slots (i := i + 1) h
      exact ⟨k + 1, by omega, by simpa using h2⟩
theorem Vals.at {C : Ctx} : ∀ {vs : List PV} {l : List Value} {k : Nat} {pv : PV}, Vals C vs l → vs[k]? = some pv → ∃ v, l[k]? = some v ∧ RV C pv v
  | [], [], _, _, _, h => by simp at h
  | [], _ :: _, _, _, h, _ => h.elim
  | _ :: _, [], _, _, h, _ => h.elim
  | v :: vs, x :: l, k, pv, ⟨h1, h2⟩, h => by
    cases k with
    | zero =>
      obtain rfl : v = pv := by simpa using h
      exact ⟨x, rfl, h1⟩
    | succ k =>
      obtain ⟨v', h3, h4⟩ := Vals.at h2 (by simpa using h : vs[k]? = some pv)
      exact ⟨v', by simpa using h3, h4⟩
theorem Vals.length {C : Ctx} : ∀ {vs : List PV} {l : List Value}, Vals C vs l → vs.length = l.length
  | [], [], _ => rfl
  | [], _ :: _, h => h.elim
  | _ :: _, [], h => h.elim
  | _ :: _, _ :: _, ⟨_, h⟩ => by rw [List.length_cons, List.length_cons, h.length]
theorem RV.mono_ok {w : World} {ok ok' : Nat → Prop} {env : Env} {pv : PV} {v : Value} (h : RV { w, ok, env } pv v) (hok : ∀ b, b < w.heap.size → ok b → ok' b) : RV { w, ok := ok', env } pv v :=
  h.le ⟨Nat.le_refl _, fun b hb ho => ⟨hok b hb ho, rfl⟩, fun _ ver hd he => ⟨ver, hd, he, Nat.le_refl _, fun _ => rfl⟩⟩

/-- A function's contract: what it is given, what it returns; whatever it returns lies in new memory, or (unless it is 'new') where what it is given may lie. -/
def FunOk (P : Program) (I : World → Prop) (f : Nat) (new : Bool) (args : List PV) (res : PV) : Prop :=
  ∀ (w : World) (ok0 : Nat → Prop) (vs : List Value), I w → Vals { w, ok := ok0, env := fun _ => none } args vs →
    Calls P f vs.toArray w fun e w' => ∃ val, e = .returned val ∧ Ext w w' ∧ RV { w := w', ok := fun b => (new = false ∧ ok0 b) ∨ w.heap.size ≤ b, env := fun _ => none } res val

/-- A part without names of objects; for a result in new memory: without slices too. -/
def coldPC (new : Bool) : PC → Bool
  | .lit _ => true
  | .bs _ _ => true
  | .sl _ _ _ => !new
  | _ => false
theorem coldPC_le {C : Ctx} {c : PC} {xs : List Value} (h : R C c xs) (hc : coldPC false c = true) : R C.cold c xs := by
  cases h <;> first | (cases hc; done) | skip
  · exact .lit (by assumption)
  · exact .bs (by assumption)
  · exact .sl (by assumption) (by assumption) (by assumption)
theorem coldPL_le {C : Ctx} : ∀ {l : List PC} {xs : List Value}, RL C l xs → l.all (coldPC false) = true → RL C.cold l xs
  | [], _, h, _ => by cases h; exact .nil
  | c :: l, _, h, hc => by
    rw [List.all_cons, Bool.and_eq_true] at hc
    cases h with
    | cons h1 h2 => exact .cons (coldPC_le h1 hc.1) (coldPL_le h2 hc.2)
theorem coldPC_new {c : PC} (h : coldPC true c = true) : coldPC false c = true := by cases c <;> first | rfl | cases h
theorem coldPL_new {l : List PC} (h : l.all (coldPC true) = true) : l.all (coldPC false) = true := List.all_eq_true.2 fun c hc => coldPC_new (List.all_eq_true.1 h c hc)
/-- What the function's end makes of a part: rows of its own are handed out. -/
inductive ExC (s : St) (new : Bool) : PC → PC → Prop where
  | cold {c : PC} (h : coldPC new c = true) : ExC s new c c
  | row {x ver n off len tot e : Nat} {g : Option Bool} {f f' : Nat → List PC} (hf : find s.o x = some (g, ver, .arr e n tot f)) (hg : gT g) (hl : off + len ≤ tot) (he : ∀ i, i < len → f (off + i) = f' i) (hc : ∀ i, i < len → (f' i).all (coldPC new) = true) : ExC s new (.ow x ver n off len) (.sl n len f')
  | nil {n : Nat} {f : Nat → List PC} : ExC s new (.lit (.slice none 0 0)) (.sl n 0 f)
inductive ExL (s : St) (new : Bool) : List PC → List PC → Prop where
  | nil : ExL s new [] []
  | cons {c c' : PC} {l l' : List PC} (h : ExC s new c c') (hl : ExL s new l l') : ExL s new (c :: l) (c' :: l')
inductive ExW (s : St) (new : Bool) : PW → PW → Prop where
  | one {c c' : PC} (h : ExC s new c c') : ExW s new (.one c) (.one c')
  | agg {l l' : List PC} (h : ExL s new l l') : ExW s new (.agg l) (.agg l')
inductive ExS (s : St) (new : Bool) : List PW → List PW → Prop where
  | nil : ExS s new [] []
  | cons {c c' : PW} {l l' : List PW} (h : ExW s new c c') (hl : ExS s new l l') : ExS s new (c :: l) (c' :: l')
inductive ExV (s : St) (new : Bool) : PV → PV → Prop where
  | w {x x' : PW} (h : ExW s new x x') : ExV s new (.w x) (.w x')
  | tup {l l' : List PW} (h : ExS s new l l') : ExV s new (.tup l) (.tup l')
def okRes (w0 : World) (ok0 : Nat → Prop) (new : Bool) : Nat → Prop := fun b => (new = false ∧ ok0 b) ∨ w0.heap.size ≤ b
theorem exC_ok {a : Act} {w : World} {env : Env} (h : GamE A s a w env) (hS : A.S = Non) {new : Bool} {c c' : PC} {xs : List Value} (hx : ExC s new c c') (hr : R (ctxOf A w env) c xs) : R { w, ok := okRes A.w0 A.ok0 new, env := fun _ => none } c' xs := by
  have hcold : ∀ {l : List PC} {xs : List Value}, RL (ctxOf A w env) l xs → l.all (coldPC new) = true → RL { w, ok := okRes A.w0 A.ok0 new, env := fun _ => none } l xs := by
    intro l xs h1 h2
    cases new with
    | false => exact (coldPL_le h1 h2).le ⟨Nat.le_refl _, fun b _ hb => ⟨hb.1.elim (fun h => .inl ⟨rfl, h⟩) .inr, rfl⟩, fun _ _ _ h => by cases h⟩
    | true =>
      have flat : ∀ {l : List PC} {xs : List Value}, RL (ctxOf A w env) l xs → l.all (coldPC true) = true → RL { w, ok := okRes A.w0 A.ok0 true, env := fun _ => none } l xs := by
        intro l
        induction l with
        | nil => intro xs h _; cases h; exact .nil
        | cons c l ih =>
          intro xs h hc
          rw [List.all_cons, Bool.and_eq_true] at hc
          cases h with
          | cons h3 h4 =>
            refine .cons ?_ (ih h4 hc.2)
            have hc1 := hc.1
            cases h3 <;> first | exact .lit (by assumption) | exact .bs (by assumption) | (cases hc1; done)
      exact flat h1 h2
  cases hx with
  | cold hc =>
    have := (hcold (RL.cons hr RL.nil) (by simp [hc])).single
    simpa using this
  | nil =>
    cases hr
    exact .sl (Reads.nil w _) (fun g hg => by simp [Value.ownBlock] at hg) (fun i hi => by omega)
  | @row x ver n off len tot e g f f' hf hg hl he hc =>
    obtain ⟨hd, hev, hob⟩ := obj_at h hf hg
    cases hr with
    | ow h1 hat =>
      obtain ⟨A0, n0, c0, rfl, hle0, rfl⟩ := hat.now hev
      obtain ⟨vs, hown, hel⟩ := hob
      have hrd := Reads.of_own hown
      have hn0 : n0 = tot := by
        obtain ⟨_, A1, c1, e1, _⟩ := hrd
        cases e1; rfl
      subst hn0
      refine .sl (vs := (vs.drop (off * n)).take (len * n)) (reads_slice hl hrd) (fun b hb hlt => ?_) (fun i hi => ?_)
      · cases A0 with
        | none => simp [Value.ownBlock] at hb
        | some ad =>
          simp only [Option.map_some, Value.ownBlock, Option.some.injEq, block_of_add] at hb
          have := h.live x ver _ b hev (by simp [hblk, hb])
          refine ⟨.inr (this.2.resolve_right (by rw [hS]; exact fun h => h)), this.1⟩
      · rw [window_window vs hi, ← he i hi]
        exact (hcold (hel _ (by omega)) (by rw [he i hi]; exact hc i hi)).le ⟨Nat.le_refl _, fun b _ hb => ⟨hb, rfl⟩, fun _ _ _ h => by cases h⟩
theorem exL_ok {a : Act} {w : World} {env : Env} (h : GamE A s a w env) (hS : A.S = Non) {new : Bool} : ∀ {l l' : List PC} {xs : List Value}, ExL s new l l' → RL (ctxOf A w env) l xs → RL { w, ok := okRes A.w0 A.ok0 new, env := fun _ => none } l' xs
  | [], _, _, hx, hr => by cases hx; cases hr; exact .nil
  | c :: l, _, _, hx, hr => by
    cases hx with
    | cons h1 h2 => cases hr with
      | cons h3 h4 => exact .cons (exC_ok h hS h1 h3) (exL_ok h hS h2 h4)
theorem exW_ok {a : Act} {w : World} {env : Env} (h : GamE A s a w env) (hS : A.S = Non) {new : Bool} {x x' : PW} {v : Value} (hx : ExW s new x x') (hr : RW (ctxOf A w env) x v) : RW { w, ok := okRes A.w0 A.ok0 new, env := fun _ => none } x' v := by
  cases hx with
  | one h1 => cases hr with | one h2 => exact .one (exC_ok h hS h1 h2)
  | agg h1 => cases hr with | agg h2 => exact .agg (exL_ok h hS h1 h2)
theorem ExS.at {s : St} {new : Bool} : ∀ {l l' : List PW} {i : Nat} {x' : PW}, ExS s new l l' → l'[i]? = some x' → ∃ x, l[i]? = some x ∧ ExW s new x x'
  | [], _, i, x', h, hi => by cases h; simp at hi
  | y :: l, _, i, x', h, hi => by
    cases h with
    | @cons _ y' _ l' h1 h2 =>
      cases i with
      | zero =>
        obtain rfl : y' = x' := by simpa using hi
        exact ⟨y, rfl, h1⟩
      | succ i =>
        obtain ⟨x, h3, h4⟩ := ExS.at h2 (by simpa using hi : l'[i]? = some x')
        exact ⟨x, by simpa using h3, h4⟩
theorem ExS.length {s : St} {new : Bool} : ∀ {l l' : List PW}, ExS s new l l' → l.length = l'.length
  | [], _, h => by cases h; rfl
  | _ :: _, _, h => by cases h with | cons _ h2 => rw [List.length_cons, List.length_cons, h2.length]
theorem exV_ok {a : Act} {w : World} {env : Env} (h : GamE A s a w env) (hS : A.S = Non) {new : Bool} {x x' : PV} {v : Value} (hx : ExV s new x x') (hr : RV (ctxOf A w env) x v) : RV { w, ok := okRes A.w0 A.ok0 new, env := fun _ => none } x' v := by
  cases hx with
  | w h1 => cases hr with | w h2 => exact .w (exW_ok h hS h1 h2)
  | tup h1 =>
    cases hr with
    | tup hl h2 =>
      refine .tup (by rw [← h1.length]; exact hl) (fun i x' hi => ?_)
      obtain ⟨x, h3, h4⟩ := h1.at hi
      obtain ⟨v, h5, h6⟩ := h2 i x h3
      exact ⟨v, h5, exW_ok h hS h4 h6⟩

/-- The function ends with a result that is res. -/
def RetTo (P : Program) (fn : Func) (new : Bool) (res : PV) (s : St) : Prop := ∃ v, (retM P fn.results).ok none s (fun _ v' wr => v' = v ∧ wr = []) ∧ ExV s new v res
theorem retTo_of {fn : Func} {new : Bool} {res : PV} {out : Out} (h : (retM P fn.results).run none s = some out) (hc : All out.conds) (hw : out.wr = []) (hx : ExV s new out.val res) : RetTo P fn new res s :=
  ⟨out.val, M.ok_of_run _ none s out _ h (fun p hp => hc.mem p hp) ⟨rfl, hw⟩, hx⟩
def pwAll (p : PC → Bool) : PW → Bool
  | .one c => p c
  | .agg l => l.all p
def pvAll (p : PC → Bool) : PV → Bool
  | .w x => pwAll p x
  | .tup l => l.all (pwAll p)
  | .none => false
theorem exL_refl {s : St} {new : Bool} : ∀ {l : List PC}, l.all (coldPC new) = true → ExL s new l l
  | [], _ => .nil
  | c :: l, h => by rw [List.all_cons, Bool.and_eq_true] at h; exact .cons (.cold h.1) (exL_refl h.2)
theorem exW_refl {s : St} {new : Bool} {x : PW} (h : pwAll (coldPC new) x = true) : ExW s new x x := by
  cases x with
  | one c => exact .one (.cold h)
  | agg l => exact .agg (exL_refl h)
theorem exS_refl {s : St} {new : Bool} : ∀ {l : List PW}, l.all (pwAll (coldPC new)) = true → ExS s new l l
  | [], _ => .nil
  | c :: l, h => by rw [List.all_cons, Bool.and_eq_true] at h; exact .cons (exW_refl h.1) (exS_refl h.2)
theorem exV_refl {s : St} {new : Bool} {v : PV} (h : pvAll (coldPC new) v = true) : ExV s new v v := by
  cases v with
  | w x => exact .w (exW_refl h)
  | tup l => exact .tup (exS_refl h)
  | none => cases h
theorem retTo_cold {fn : Func} {new : Bool} {res : PV} {out : Out} (h : (retM P fn.results).exec none s [] [] [] [] = some out) (hc : All out.conds) (hw : out.wr = []) (hx : pvAll (coldPC new) out.val = true) (he : out.val = res) : RetTo P fn new res s := by
  rw [exec_nil] at h
  subst he
  exact retTo_of h hc hw (exV_refl hx)
theorem retTo_ex {fn : Func} {new : Bool} {res : PV} {out : Out} (h : (retM P fn.results).exec none s [] [] [] [] = some out) (hc : All out.conds) (hw : out.wr = []) (hx : ExV s new out.val res) : RetTo P fn new res s := by
  rw [exec_nil] at h
  exact retTo_of h hc hw hx
def RQ (P : Program) (A : Amb) (fn : Func) (new : Bool) (res : PV) : Exit → Act → World → Prop := fun e a w => (e = .normal ∨ e = .ret) ∧ ∃ s, RetTo P fn new res s ∧ Gam A s a w
/-- A function's contract from the walk of its body. -/
theorem funOk_of {f : Nat} {fn : Func} {c : Code} {new : Bool} {args : List PV} {res : PV} (hf : P.funcs[f]? = some fn) (hb : fn.body = some c) (hnb : Nat.ble args.length fn.ntmps = true) (hI : ∀ w w', Ext w w' → I w → I w')
    (hT : ∀ A : Amb, A.S = Non → A.nt = fn.ntmps → (∀ w, Chg A.S A.w0 w → I w) → Tri P A ⟨slots 0 args, []⟩ c (RQ P A fn new res)) : FunOk P I f new args res := by
  intro w ok0 vs hIw hv
  have hlen := hv.length
  have hn := Nat.le_of_ble_eq_true hnb
  have hg : Gam ⟨w, Non, ok0, fn.ntmps⟩ ⟨slots 0 args, []⟩ { tmps := vs.toArray ++ Array.replicate (fn.ntmps - vs.toArray.size) undef, defers := [] } w := by
    refine ⟨fun _ => none, { chg := Chg.refl _ _, size := ?_, dom := fun x _ => rfl, objs := fun x g ver o h => (by cases h), live := fun x ver hd b h => (by cases h), inj := fun x y v1 h1 v2 h2 b h => (by cases h), tmps := fun t g pv h hgt => ?_, defers := rfl }⟩
    · simp; omega
    · obtain ⟨k, h1, h2⟩ := find_slots h
      obtain ⟨v, h3, h4⟩ := hv.at h2
      rw [Nat.zero_add] at h1
      subst h1
      have hk : t < vs.length := (List.getElem?_eq_some_iff.1 h3).1
      refine ⟨v, ?_, ?_⟩
      · rw [Array.getElem?_append_left (by simpa using hk)]
        simpa using h3
      · refine h4.le ⟨Nat.le_refl _, fun b _ hb => ⟨⟨.inl hb, fun _ _ _ h => by cases h⟩, rfl⟩, fun _ _ _ h => by cases h⟩
  refine calls_of_wp hf hb (wp_mono (hT ⟨w, Non, ok0, fn.ntmps⟩ rfl rfl (fun w' hc => hI w w' hc hIw) _ w hg) (fun e a' w' he => ?_))
  obtain ⟨h1, s, ⟨v, h2, h3⟩, h4⟩ := he
  obtain ⟨env, hE⟩ := h4
  obtain ⟨v', val, h5, h6, h7, _⟩ := retM_ok hE h2
  subst h7
  have hres := exV_ok hE rfl h3 h6
  have : a'.defers = [] ∧ ∃ v, (results fn a'.tmps).run P w' = .ok v w' ∧ ∃ val, Ending.returned v = .returned val ∧ Ext w w' ∧ RV { w := w', ok := fun b => (new = false ∧ ok0 b) ∨ w.heap.size ≤ b, env := fun _ => none } res val :=
    ⟨hE.defers, val, h5, val, rfl, hE.chg, hres⟩
  rcases h1 with rfl | rfl <;> exact this
end

end Go.Proofs.YtcjlkjcadaaleaaDoor.Pv
