/-
  Several texts in one file: each has its own heading below.
-/
import Derived.Test.YtplkplegjoabgaaGreatDoorHzB
import Derived.ChangeKeysEq
import Derived.Laws.MakeOwn


namespace Go.Proofs.YtplkplegjoabgaaGreatDoor.Pv
open Go.RowKit
theorem byteOf_ok {v : Value} {b : UInt8} (h : byteOf v = some b) : v = u8w b := by
  unfold byteOf at h
  split at h
  · split at h
    · cases h
      rename_i hn
      show Value.int .u8 _ = .int .u8 _
      rw [← hn]
    · cases h
  · cases h
theorem bytesOfCells_ok : ∀ {n : Nat} {l : List Value} {bs : List UInt8}, bytesOfCells n l = some bs → bs.length = n ∧ l = bs.map u8w ++ l.drop n
  | 0, l, bs, h => by simp [bytesOfCells] at h; subst h; exact ⟨rfl, by simp⟩
  | n + 1, [], bs, h => by simp [bytesOfCells] at h
  | n + 1, v :: l, bs, h => by
    unfold bytesOfCells at h
    cases h1 : byteOf v with
    | none => rw [h1] at h; simp at h
    | some b =>
      cases h2 : bytesOfCells n l with
      | none => rw [h1, h2] at h; simp at h
      | some r =>
        rw [h1, h2] at h
        cases h
        obtain ⟨k1, k2⟩ := bytesOfCells_ok h2
        exact ⟨by simp [k1], by rw [byteOf_ok h1]; simp; exact k2⟩
theorem pack_ok {C : Ctx} : ∀ {sh : List Nat} {xs : List Value} {l : List PC}, pack sh xs = some l → RL C l xs
  | [], [], l, h => by simp [pack] at h; subst h; exact .nil
  | [], _ :: _, l, h => by simp [pack] at h
  | 0 :: sh, [], l, h => by simp [pack] at h
  | 0 :: sh, v :: xs, l, h => by
    unfold pack at h
    by_cases hv : v.oneCell' = true
    · rw [if_pos hv] at h
      cases h1 : pack sh xs with
      | none => rw [h1] at h; cases h
      | some r =>
        rw [h1] at h
        cases h
        exact .cons (xs := [v]) (.lit hv) (pack_ok h1)
    · rw [if_neg hv] at h; cases h
  | (n + 1) :: sh, xs, l, h => by
    unfold pack at h
    cases h1 : bytesOfCells (n + 1) xs with
    | none => rw [h1] at h; simp at h
    | some bs =>
      cases h2 : pack sh (xs.drop (n + 1)) with
      | none => rw [h1, h2] at h; simp at h
      | some r =>
        rw [h1, h2] at h
        cases h
        obtain ⟨k1, k2⟩ := bytesOfCells_ok h1
        rw [k2]
        exact .cons (.bs k1) (pack_ok h2)
section
variable {P : Program} {A : Amb} {s : St} {a : Act} {w : World} {env : Env} {o : Oper} {K : Act → World → Prop} {Q : Exit → Act → World → Prop} {F : Option Bool → PV → Wr → Prop}
theorem wp_of_run {v : Value} {w' : World} (hr : (execOp a.eval o).run P w = .ok (.value v) w') (hK : K (a.put o.dst v) w') : o.wp P a w K Q := by
  unfold Oper.wp
  rw [hr]
  exact hK
theorem move_ok (h : GamE A s a w env) {x : Operand} (ho : o.op = .move x ∨ o.op = .assign x) (hk : (evO x fun v => .ret v).ok none s F) (hf : Fin A s a o K F) : o.wp P a w K Q := by
  obtain ⟨pv, hp, hk⟩ := evO_ok h hk
  refine wp_of_run (v := a.eval x) (w' := w) ?_ (hf.same h hk hp)
  rcases ho with ho | ho <;> simp [execOp, ho]
theorem RV.bool_inv {C : Ctx} {b : Bool} {v : Value} (h : RV C (.w (.one (.lit (.bool b)))) v) : v = .bool b := by cases h.inv; rfl
theorem RV.lit_inv {C : Ctx} {u v : Value} (h : RV C (.w (.one (.lit u))) v) : v = u := by cases h.inv; rfl
theorem pick_ok (h : GamE A s a w env) {c x y : Operand} (ho : o.op = .pick c x y) (hk : (pickM c x y).ok none s F) (hf : Fin A s a o K F) : o.wp P a w K Q := by
  obtain ⟨cv, hc, hk⟩ := evO_ok h hk
  split at hk
  · rename_i hb
    have hk1 := evIf_ok h hk
    clear hk
    obtain ⟨av, ha, hk⟩ := hk1
    have hk1 := evIf_ok h hk
    clear hk
    obtain ⟨bv, hbv, hk⟩ := hk1
    split at hk
    · rename_i x1 y1
      refine wp_of_run (v := .bool (bif hb then x1 else y1)) (w' := w) ?_ (hf.same h hk (.w (.one (.lit rfl))))
      have hcv := hc.bool_inv
      cases hb with
      | true => simp [execOp, ho, hcv, asBool, (ha rfl).bool_inv]
      | false => simp [execOp, ho, hcv, asBool, (hbv rfl).bool_inv]
    · exact hk.elim
  · exact hk.elim
theorem zeroPC_ok {C : Ctx} {t : TypeId} {l : List PC} (h : zeroPC P t = some l) : ∃ i z, P.info? t = some i ∧ i.zero = some z ∧ RL C l z.cells.toList := by
  unfold zeroPC at h
  cases hi : P.info? t with
  | none => rw [hi] at h; simp at h
  | some i =>
    rw [hi] at h
    simp only [Option.bind_some] at h
    cases hz : i.zero with
    | none => rw [hz] at h; simp at h
    | some z =>
      cases hs : shapeOf P 8 t with
      | none => rw [hz, hs] at h; simp at h
      | some sh =>
        rw [hz, hs] at h
        exact ⟨i, z, rfl, hz, pack_ok h⟩
theorem GamE.new_box (h : GamE A s a w env) (nm : Nat) (t : TypeId) {l : List PC} {cs : Array Value} (hr : RL (ctxOf A w env) l cs.toList) :
    ∃ env', GamE A { s with o := [(nm, none, fresh s nm, .box t l)] ++ s.o } a (w.alloc (.cells cs t)) env' ∧ RV (ctxOf A (w.alloc (.cells cs t)) env') (pv1 (.pt nm (fresh s nm) 0)) (.pointer (some ⟨w.heap.size, 0, none⟩)) := by
  obtain ⟨h1, h2⟩ := h.new (w' := w.alloc (.cells cs t)) nm none (boxAt w.heap.size) (.box t l) ((Ext.refl w).alloc _) (fun b hb => by cases hb; simp) (fun hle _ => ⟨_, cs, rfl, Blk.new w t cs, hr.le hle⟩)
  exact ⟨_, h1, .w (.one (.pt ⟨_, _, rfl⟩ ⟨_, _, updE_eq _ _ _ _, Nat.le_refl _, fun _ => ⟨_, rfl, rfl⟩⟩))⟩
theorem alloc_ok (h : GamE A s a w env) {nm : Nat} {t : TypeId} (ho : o.op = .alloc t) {l : List PC} (hz : zeroPC P t = some l) (hk : (M.new nm (.box t l) fun v => .ret (pv1 (.pt nm v 0))).ok none s F) (hf : Fin A s a o K F) : o.wp P a w K Q := by
  obtain ⟨i, z, hi, hzz, hr⟩ := zeroPC_ok (C := ctxOf A w env) hz
  obtain ⟨env', h1, h2⟩ := h.new_box nm t hr
  refine wp_of_run (v := .pointer (some ⟨w.heap.size, 0, none⟩)) (w' := w.alloc (.cells z.cells t)) ?_ (hf _ _ _ _ _ hk h1 h2)
  simp [execOp, ho, Instr.alloc, zeroValue, typeInfo, hi, hzz, newVar, newRow]
theorem box_ok (h : GamE A s a w env) {nm : Nat} {t : TypeId} {x : Operand} (ho : o.op = .box t x) {pw : PW} (hv : RW (ctxOf A w env) pw (a.eval x)) (hk : (M.new nm (.box t pw.cells) fun v => .ret (pv1 (.pt nm v 0))).ok none s F) (hf : Fin A s a o K F) : o.wp P a w K Q := by
  obtain ⟨env', h1, h2⟩ := h.new_box nm t hv.cells'
  refine wp_of_run (v := .pointer (some ⟨w.heap.size, 0, none⟩)) (w' := w.alloc (.cells (a.eval x).cells t)) ?_ (hf _ _ _ _ _ hk h1 h2)
  simp [execOp, ho, Instr.box, newVar, newRow]
theorem extract_ok (h : GamE A s a w env) {x : Operand} {i : Nat} (ho : o.op = .extract x i) {v : PV} (hv : RV (ctxOf A w env) v (a.eval x)) (hk : (retW (tupOf v i)).ok none s F) (hf : Fin A s a o K F) : o.wp P a w K Q := by
  obtain ⟨pw, hp, hF⟩ := retW_ok hk
  cases v <;> simp only [tupOf] at hp <;> try (cases hp; done)
  rename_i l
  generalize hq : a.eval x = q at hv
  cases hv with
  | tup hl hv =>
    obtain ⟨u, h1, h2⟩ := hv i pw hp
    refine wp_of_run (v := u) (w' := w) ?_ (hf.same h hF (.w h2))
    simp [execOp, ho, hq, Instr.extract, h1]
theorem field_ok (h : GamE A s a w env) {t : TypeId} {x : Operand} {f : Nat} (ho : o.op = .field t x f) {v : PV} (hv : RV (ctxOf A w env) v (a.eval x)) (hk : (fieldM P t v f).ok none s F) (hf : Fin A s a o K F) : o.wp P a w K Q := by
  unfold fieldM at hk
  cases hu : P.underlying t with
  | none => rw [hu] at hk; exact hk.elim
  | some d =>
    rw [hu] at hk
    cases d <;> try exact hk.elim
    rename_i fs
    dsimp only at hk
    cases hfd : fs[f]? with
    | none => rw [hfd] at hk; exact hk.elim
    | some fd =>
      rw [hfd] at hk
      dsimp only at hk
      split at hk
      · rename_i n l hsz
        cases hs : subPC l fd.offset n with
        | none => rw [hs] at hk; exact hk.elim
        | some m =>
          rw [hs] at hk
          obtain ⟨pw, hw, hF⟩ := retW_ok hk
          generalize hq : a.eval x = q at hv
          cases hv with
          | w hv => cases hv with
            | @agg _ cs hr =>
              obtain ⟨k1, k2⟩ := hr.sub hs
              have hsize : ∃ i, P.info? fd.type = some i ∧ i.size = n := by
                unfold szOf at hsz
                cases hi : P.info? fd.type with
                | none => rw [hi] at hsz; cases hsz
                | some i => rw [hi] at hsz; exact ⟨i, rfl, by simpa using hsz⟩
              obtain ⟨i, hi, hin⟩ := hsize
              rcases mkW_ok hw k1 with ⟨hrow, h1⟩ | ⟨hrow, u, hxs, _, h1⟩
              · refine wp_of_run (v := .agg ((cs.toList.drop fd.offset).take n).toArray) (w' := w) ?_ (hf.same h hF (.w h1))
                obtain ⟨d, hd1, hd2⟩ := rowTy_und hrow
                have hag : (isAgg fd.type).run P w = .ok true w := by
                  unfold isAgg
                  rw [Sem.run_bind, run_underlying hd1 w]
                  cases d <;> simp_all
                have hex : cs.extract fd.offset (fd.offset + n) = ((cs.toList.drop fd.offset).take n).toArray := by
                  apply Array.ext'
                  simp [List.extract_eq_take_drop]
                simp [execOp, ho, hq, Instr.field, run_underlying hu, hfd, part, hag, sizeOf, typeInfo, hi, hin, asAgg, hex]
              · refine wp_of_run (v := u) (w' := w) ?_ (hf.same h hF (.w h1))
                have hcell : cs[fd.offset]? = some u := by
                  have := congrArg (·[0]?) hxs
                  simp only [List.getElem?_take, List.getElem?_drop, Nat.add_zero, List.getElem?_cons_zero] at this
                  split at this
                  · simpa using this
                  · cases this
                simp [execOp, ho, hq, Instr.field, run_underlying hu, hfd, part, rowTy_agg hrow, hcell, asAgg]
      · exact hk.elim
theorem szOf_info {t : TypeId} {n : Nat} (h : szOf P t = some n) : ∃ i, P.info? t = some i ∧ i.size = n := by
  unfold szOf at h
  cases hi : P.info? t with
  | none => rw [hi] at h; cases h
  | some i => rw [hi] at h; exact ⟨i, rfl, by simpa using h⟩
theorem run_fieldAt {t : TypeId} {fs : Array Field} {fd : Field} {f b off n : Nat} (hu : P.underlying t = some (.struct fs)) (hfd : fs[f]? = some fd) (hsz : szOf P fd.type = some (n + 1)) (w : World) :
    (Instr.fieldAt t (.pointer (some ⟨b, off, none⟩)) f).run P w = .ok (.pointer (some ⟨b, off + fd.offset, none⟩)) w := by
  obtain ⟨i, hi, hs⟩ := szOf_info hsz
  simp [Instr.fieldAt, run_underlying hu, hfd, Instr.sureAddr, fieldPlace, sizeOf, typeInfo, hi, hs, add_lit]
theorem fieldAddr_ok (h : GamE A s a w env) {t : TypeId} {x : Operand} {f : Nat} (ho : o.op = .fieldAddr t x f) {p : PV} (hp : RV (ctxOf A w env) p (a.eval x)) (hk : (fieldAddrM P t p f).ok none s F) (hf : Fin A s a o K F) : o.wp P a w K Q := by
  unfold fieldAddrM at hk
  cases hu : P.underlying t with
  | none => rw [hu] at hk; exact hk.elim
  | some d =>
    rw [hu] at hk
    cases d <;> try exact hk.elim
    rename_i fs
    dsimp only at hk
    cases hfd : fs[f]? with
    | none => rw [hfd] at hk; exact hk.elim
    | some fd =>
      rw [hfd] at hk
      dsimp only at hk
      split at hk
      · rename_i n hsz
        have hrun := fun b off => run_fieldAt (b := b) (off := off) hu hfd hsz w
        have hstep : ∀ b off, a.eval x = .pointer (some ⟨b, off, none⟩) → (execOp a.eval o).run P w = .ok (.value (.pointer (some ⟨b, off + fd.offset, none⟩))) w := fun b off he => by
          simp [execOp, ho, he, hrun b off]
        generalize hq : a.eval x = q at hp
        split at hk
        · cases hp.inv with
          | pt h1 hat =>
            obtain ⟨b, o1, rfl⟩ := h1
            refine wp_of_run (hstep b o1 hq) (hf.same h hk (.w (.one (.pt ⟨_, _, rfl⟩ (hat.mono fun hd ⟨g, e1, e2⟩ => ?_)))))
            cases e2
            exact ⟨b, e1, rfl⟩
        · cases hp.inv with
          | pe h1 hat =>
            obtain ⟨b, o1, rfl⟩ := h1
            refine wp_of_run (hstep b o1 hq) (hf.same h hk (.w (.one (.pe ⟨_, _, rfl⟩ (hat.mono fun hd ⟨g, n0, c0, e1, e3, e2⟩ => ?_)))))
            cases e2
            exact ⟨b, n0, c0, e1, e3, by rw [Nat.add_assoc]⟩
        · rename_i n0 len0 f0 i0 j0
          cases hp.inv with
          | @pf _ _ _ _ _ _ b o1 c vs hr hb he hi =>
            refine wp_of_run (hstep b _ hq) (hf.same h hk (.w (.one ?_)))
            have := R.pf (C := ctxOf A w env) (j := j0 + fd.offset) hr hb he hi
            rw [show o1 + (i0 * n0 + j0) + fd.offset = o1 + (i0 * n0 + (j0 + fd.offset)) from by omega]
            exact this
        · exact hk.elim
      · exact hk.elim
theorem isLit_ok {v : PV} {u : Value} (h : isLit v = some u) : v = lit1 u := by
  unfold isLit at h
  split at h
  · cases h; rfl
  · cases h
theorem run_indexAt_sl {t e : TypeId} {b off n len c : Nat} {k : IntKind} {i : Int} (hu : P.underlying t = some (.slice e)) (hsz : szOf P e = some n) (h0 : 0 ≤ i) (h1 : i < len) (w : World) :
    (Instr.indexAt t (.slice (some ⟨b, off, none⟩) len c) (.int k i)).run P w = .ok (.pointer (some ⟨b, off + i.toNat * n, none⟩)) w := by
  obtain ⟨ii, hi, hs⟩ := szOf_info hsz
  simp [Instr.indexAt, run_underlying hu, asIntOf, sizeOf, typeInfo, hi, hs, h0, h1, add_lit]
theorem run_indexAt_arr {t e : TypeId} {b off n len : Nat} {k : IntKind} {i : Int} (hu : P.underlying t = some (.array len e)) (hsz : szOf P e = some n) (h0 : 0 ≤ i) (h1 : i < len) (w : World) :
    (Instr.indexAt t (.pointer (some ⟨b, off, none⟩)) (.int k i)).run P w = .ok (.pointer (some ⟨b, off + i.toNat * n, none⟩)) w := by
  obtain ⟨ii, hi, hs⟩ := szOf_info hsz
  simp [Instr.indexAt, run_underlying hu, asIntOf, sizeOf, typeInfo, hi, hs, h0, h1, add_lit, Instr.sureAddr]
theorem indexAddr_ok (h : GamE A s a w env) {t : TypeId} {x y : Operand} (ho : o.op = .indexAddr t x y) {p iv : PV} (hp : RV (ctxOf A w env) p (a.eval x)) (hv : RV (ctxOf A w env) iv (a.eval y)) (hk : (indexAddrM P t p iv).ok none s F) (hf : Fin A s a o K F) : o.wp P a w K Q := by
  unfold indexAddrM at hk
  split at hk
  · rename_i kk i hlit
    have hy : a.eval y = .int kk i := by
      rw [isLit_ok hlit] at hv
      exact hv.lit_inv
    have hrunx : ∀ q, (Instr.indexAt t (a.eval x) (.int kk i)).run P w = .ok q w → (execOp a.eval o).run P w = .ok (.value q) w := fun q hq => by
      simp [execOp, ho, hy, hq]
    generalize hq : a.eval x = q at hp hrunx
    cases hu : P.underlying t with
    | none => rw [hu] at hk; exact hk.elim
    | some d =>
      rw [hu] at hk
      cases d <;> try exact hk.elim
      · rename_i e
        dsimp only at hk
        split at hk
        · rename_i n len f
          cases hsz : szOf P e with
          | none => rw [hsz] at hk; exact hk.elim
          | some n' =>
            rw [hsz] at hk
            dsimp only at hk
            cases hb : Nat.beq n n' <;> rw [hb] at hk
            · exact hk.elim
            obtain ⟨⟨h0, h1⟩, hF⟩ := hk
            obtain rfl := beqT hb
            cases hp.inv with
            | @sl _ _ _ _ _ vs hr hbb he =>
              obtain ⟨g1, A1, c, rfl, g2, g3, g4⟩ := hr
              obtain ⟨b, off, rfl, hcell⟩ := g4 (by omega)
              refine wp_of_run (hrunx _ (run_indexAt_sl hu hsz h0 h1 w)) (hf.same h hF (.w (.one ?_)))
              have := R.pf (C := ctxOf A w env) (n := n) (len := len) (f := f) (i := i.toNat) (j := 0) (b := b) (o := off) (c := c) (vs := vs) ⟨g1, _, c, rfl, g2, g3, fun _ => ⟨b, off, rfl, hcell⟩⟩ (hbb b rfl (by omega)) he (by omega)
              exact this
        · rename_i x1 ver n off len
          cases hsz : szOf P e with
          | none => rw [hsz] at hk; exact hk.elim
          | some n' =>
            rw [hsz] at hk
            dsimp only at hk
            cases hb : Nat.beq n n' <;> rw [hb] at hk
            · exact hk.elim
            obtain ⟨g, vr, ob, hfo, hk⟩ := hk
            have hk2 := guardT_ok hk
            clear hk
            obtain ⟨hg, hk⟩ := hk2
            obtain ⟨hd, he, hob⟩ := obj_at h hfo hg
            cases hb2 : Nat.beq ver vr <;> cases ob <;> simp only [hb2] at hk <;> try exact hk.elim
            rename_i e' n2 tot f
            obtain rfl := beqT hb2
            obtain rfl := beqT hb
            obtain ⟨⟨h0, h1⟩, hF⟩ := hk
            obtain ⟨A0, n0, c0, rfl, hle, hv'⟩ := hp.ow_inv he
            obtain ⟨vs, hown, hel⟩ := hob
            rcases hown.2 with ⟨e0, _⟩ | ⟨g1, cap, cur, t', fr, e0, _⟩
            · cases e0; omega
            · cases e0
              subst hv'
              simp only [Option.map_some, add_lit] at hrunx hp
              refine wp_of_run (hrunx _ (run_indexAt_sl hu hsz h0 h1 w)) (hf.same h hF (.w (.one (.pe ⟨_, _, rfl⟩ ⟨ver, _, he, Nat.le_refl _, fun _ => ⟨g1, _, _, rfl, by omega, ?_⟩⟩))))
              rw [Nat.add_mul, Nat.zero_add, Nat.add_zero]
        · exact hk.elim
      · rename_i len e
        dsimp only at hk
        split at hk
        · rename_i x1 ver off hsz
          obtain ⟨⟨h0, h1⟩, hF⟩ := hk
          cases hp.inv with
          | pt hpt hat =>
            obtain ⟨b, o1, rfl⟩ := hpt
            refine wp_of_run (hrunx _ (run_indexAt_arr hu hsz h0 h1 w)) (hf.same h hF (.w (.one (.pk ⟨_, _, rfl⟩ (hat.mono fun hd ⟨g, e1, e2⟩ => ?_)))))
            cases e2
            exact ⟨b, e1, by rw [Nat.mul_one]⟩
        · rename_i n0 len0 f i0 j hsz
          obtain ⟨⟨h0, h1⟩, hF⟩ := hk
          cases hp.inv with
          | @pf _ _ _ _ _ _ b o1 c vs hr hb he hi =>
            refine wp_of_run (hrunx _ (run_indexAt_arr hu hsz h0 h1 w)) (hf.same h hF (.w (.one ?_)))
            have := R.pf (C := ctxOf A w env) (i := i0) (j := j + i.toNat) hr hb he hi
            rw [show o1 + (i0 * n0 + j) + i.toNat * 1 = o1 + (i0 * n0 + (j + i.toNat)) from by omega]
            exact this
        · exact hk.elim
  · exact hk.elim
theorem RV.sl_len {C : Ctx} {n len : Nat} {f : Nat → List PC} {v : Value} (h : RV C (.w (.one (.sl n len f))) v) : ∃ A c, v = .slice A len c := by
  cases h.inv with
  | sl hr _ _ => obtain ⟨_, A, c, rfl, _⟩ := hr; exact ⟨_, _, rfl⟩
theorem len_ok (h : GamE A s a w env) {x : Operand} {t : TypeId} (ho : o.op = .call { callee := .builtin .len, args := #[x], argTypes := #[t] }) {v : PV} (hv : RV (ctxOf A w env) v (a.eval x)) (hk : (lenM P t v).ok none s F) (hf : Fin A s a o K F) : o.wp P a w K Q := by
  have hstep : ∀ n : Int, (Builtin.len_ #[t] o.type #[a.eval x]).run P w = .ok (goInt n) w → (execOp a.eval o).run P w = .ok (.value (.int .i64 n)) w := fun n hr => by
    simp only [execOp, ho, resolve, invoke, builtin, Sem.run_bind, Sem.run_pure, Result.andThen_ok, List.map_toArray, List.map_cons, List.map_nil, hr]
    rfl
  unfold lenM at hk
  generalize hq : a.eval x = q at hv hstep
  split at hk
  · rename_i e _ len _ hu
    obtain ⟨A1, c, rfl⟩ := hv.sl_len
    exact wp_of_run (hstep len (by simp [Builtin.len_, run_underlying hu])) (hf.same h hk (.w (.one (.lit rfl))))
  · rename_i e _ _ _ _ len hu
    cases hv.inv with
    | ow h1 _ =>
      obtain ⟨A1, c, rfl⟩ := h1
      exact wp_of_run (hstep len (by simp [Builtin.len_, run_underlying hu])) (hf.same h hk (.w (.one (.lit rfl))))
  · rename_i e _ _ _ len hu
    cases hv.inv with
    | ob h1 _ =>
      obtain ⟨A1, c, rfl⟩ := h1
      exact wp_of_run (hstep len (by simp [Builtin.len_, run_underlying hu])) (hf.same h hk (.w (.one (.lit rfl))))
  · rename_i e hu
    have := hv.lit_inv
    subst this
    exact wp_of_run (hstep 0 (by simp [Builtin.len_, run_underlying hu])) (hf.same h hk (.w (.one (.lit rfl))))
  · rename_i b hu
    have := hv.lit_inv
    subst this
    exact wp_of_run (hstep b.size (by simp [Builtin.len_, run_underlying hu])) (hf.same h hk (.w (.one (.lit rfl))))
  · exact hk.elim
end
end Go.Proofs.YtplkplegjoabgaaGreatDoor.Pv


namespace Go.Proofs.YtplkplegjoabgaaGreatDoor.Pv
open Go.RowKit
theorem foldl_over (off : Nat) : ∀ (ys : List Value) (k : Nat) (cells : Array Value), off + k + ys.length ≤ cells.size →
    (ys.zipIdx k).foldl (fun cs p => cs.setIfInBounds (off + p.2) p.1) cells = (over cells.toList (off + k) ys).toArray
  | [], k, cells, h => by simp [over]
  | y :: ys, k, cells, h => by
    rw [List.zipIdx_cons, List.foldl_cons, foldl_over off ys (k + 1) _ (by simp at h ⊢; omega)]
    apply Array.ext'
    apply List.ext_getElem?
    intro i
    simp only [List.length_cons] at h
    have hsz : cells.toList.length = cells.size := Array.length_toList
    have hsz2 : off + (k + 1) + ys.length ≤ (cells.setIfInBounds (off + k) y).toList.length := by
      have : (cells.setIfInBounds (off + k) y).toList.length = cells.size := by simp
      omega
    have e1 := over_getElem? (xs := (cells.setIfInBounds (off + k) y).toList) (ys := ys) (off := off + (k + 1)) hsz2 i
    have e2 := over_getElem? (xs := cells.toList) (ys := y :: ys) (off := off + k) (by rw [hsz, List.length_cons]; omega) i
    rw [e1, e2, Array.toList_setIfInBounds, List.getElem?_set]
    simp only [List.length_cons]
    by_cases h1 : off + (k + 1) ≤ i ∧ i < off + (k + 1) + ys.length
    · rw [if_pos h1, if_pos (by omega), show i - (off + k) = (i - (off + (k + 1))) + 1 from by omega, List.getElem?_cons_succ]
    · rw [if_neg h1]
      by_cases h2 : off + k = i
      · subst h2
        rw [if_pos rfl, if_pos (by omega), if_pos (by omega), Nat.sub_self, List.getElem?_cons_zero]
      · rw [if_neg h2, if_neg (by omega)]
theorem fill_over (cells : Array Value) (v : Value) (off : Nat) (h : off + v.cells.size ≤ cells.size) : v.cells.zipIdx.foldl (fun cs (c, j) => cs.setIfInBounds (off + j) c) cells = (over cells.toList off v.cells.toList).toArray := by
  have := foldl_over off v.cells.toList 0 cells (by simpa using h)
  rw [← Array.foldl_toList, Array.toList_zipIdx]
  exact this
def PartsR (C : Ctx) (a : Act) : List (Nat × PV) → List (Nat × Operand) → Prop
  | [], [] => True
  | (i, v) :: vs, (j, x) :: l => i = j ∧ RV C v (a.eval x) ∧ PartsR C a vs l
  | _, _ => False
theorem RL.bs1 {C : Ctx} {m : Nat} {bs : List UInt8} {xs : List Value} (h : RL C [.bs m bs] xs) : bs.length = m ∧ xs = bs.map u8w := by
  cases h with
  | cons h1 h2 => cases h2; cases h1 with | bs hb => exact ⟨hb, by simp⟩
section
variable {P : Program} {A : Amb} {s : St} {a : Act} {w : World} {env : Env} {o : Oper} {K : Act → World → Prop} {Q : Exit → Act → World → Prop} {F : Option Bool → PV → Wr → Prop}
theorem evParts_ok (h : GamE A s a w env) : ∀ {l : List (Nat × Operand)} {k : List (Nat × PV) → M}, (evParts l k).ok none s F → ∃ vs, PartsR (ctxOf A w env) a vs l ∧ (k vs).ok none s F
  | [], k, hk => ⟨[], trivial, hk⟩
  | (i, x) :: l, k, hk => by
    obtain ⟨pv, h1, hk1⟩ := evO_ok h hk
    obtain ⟨vs, h2, hk2⟩ := evParts_ok h hk1
    exact ⟨(i, pv) :: vs, ⟨rfl, h1, h2⟩, hk2⟩
def ValsR (C : Ctx) (a : Act) : List PV → List Operand → Prop
  | [], [] => True
  | v :: vs, x :: l => RV C v (a.eval x) ∧ ValsR C a vs l
  | _, _ => False
theorem evAll_ok (h : GamE A s a w env) : ∀ {l : List Operand} {k : List PV → M}, (evAll l k).ok none s F → ∃ vs, ValsR (ctxOf A w env) a vs l ∧ (k vs).ok none s F
  | [], k, hk => ⟨[], trivial, hk⟩
  | x :: l, k, hk => by
    obtain ⟨pv, h1, hk1⟩ := evO_ok h hk
    obtain ⟨vs, h2, hk2⟩ := evAll_ok h hk1
    exact ⟨pv :: vs, ⟨h1, h2⟩, hk2⟩
theorem fillPC_ok {C : Ctx} {places : List (Nat × Nat)} : ∀ {vs : List (Nat × PV)} {l : List (Nat × Operand)} {pcs l' : List PC} {cells : Array Value}, PartsR C a vs l → RL C pcs cells.toList → fillPC places vs pcs = some l' →
    ∃ cells', Instr.fill (places[·]?) cells (l.map fun q => (q.1, a.eval q.2)) = some cells' ∧ RL C l' cells'.toList
  | [], [], pcs, l', cells, _, hr, hf => by
    simp [fillPC] at hf
    subst hf
    exact ⟨cells, rfl, hr⟩
  | [], _ :: _, _, _, _, hp, _, _ => hp.elim
  | _ :: _, [], _, _, _, hp, _, _ => hp.elim
  | (i, v) :: vs, (j, x) :: l, pcs, l', cells, hp, hr, hf => by
    obtain ⟨rfl, hv, hp⟩ := hp
    unfold fillPC at hf
    cases v <;> try (simp at hf; done)
    rename_i pw
    cases hpl : places[i]? with
    | none => rw [hpl] at hf; simp at hf
    | some q =>
      obtain ⟨off, n⟩ := q
      rw [hpl] at hf
      dsimp only at hf
      cases hb : Nat.beq n (widths pw.cells) <;> cases hs : splice pcs off pw.cells <;> simp only [hb, hs] at hf <;> try (cases hf; done)
      rename_i m
      cases hv with
      | w hv =>
        have hc := hv.cells'
        obtain ⟨k1, k2⟩ := splice_ok hr hc hs
        have hn : (a.eval x).cells.size = n := by rw [beqT hb, ← hc.width, Array.length_toList]
        have k2' : off + (a.eval x).cells.size ≤ cells.size := by simpa using k2
        obtain ⟨cells', h1, h2⟩ := fillPC_ok (cells := (over cells.toList off (a.eval x).cells.toList).toArray) hp (by simpa using k1) hf
        refine ⟨cells', ?_, h2⟩
        rw [List.map_cons, Instr.fill]
        dsimp only
        rw [hpl]
        dsimp only
        rw [if_neg (by simp; omega), fill_over cells _ off k2']
        exact h1
theorem build_ok (h : GamE A s a w env) {t : TypeId} {parts : Array (Nat × Operand)} (ho : o.op = .build t parts) {vs : List (Nat × PV)} (hp : PartsR (ctxOf A w env) a vs parts.toList) {l : List PC} (hz : zeroPC P t = some l) (hk : (buildM P t vs l).ok none s F) (hf : Fin A s a o K F) : o.wp P a w K Q := by
  obtain ⟨i, z, hi, hzz, hr⟩ := zeroPC_ok (C := ctxOf A w env) hz
  unfold buildM at hk
  have hstep : ∀ cells, P.built t (parts.map fun x => (x.1, a.eval x.2)).toList = some cells → (execOp a.eval o).run P w = .ok (.value (.agg cells)) w := fun cells hb => by
    simp [execOp, ho, run_build w t _ cells hb]
  cases hu : P.underlying t with
  | none => rw [hu] at hk; exact hk.elim
  | some d =>
    rw [hu] at hk
    cases d <;> try exact hk.elim
    · rename_i n e
      dsimp only at hk
      split at hk
      · rename_i m bs hsz
        obtain ⟨ie, hie, hies⟩ := szOf_info hsz
        have hlen := hr.bs1
        have hzsz : z.cells.size = m := by rw [← Array.length_toList, hlen.2, List.length_map, hlen.1]
        have hcz : z.cells = (bs.map u8w).toArray := by apply Array.ext'; simpa using hlen.2
        have hset : ∀ (l : List UInt8) (i : Nat) (b : Int), l.length = m → i < m → 0 ≤ b → b < 256 → Instr.fill (fun i => some (i * ie.size, ie.size)) (l.map u8w).toArray [(i, .int .u8 b)] = some ((l.set i (UInt8.ofNat b.toNat)).map u8w).toArray := by
          intro l i b hl hi h0 h1
          have hu8 : u8w (UInt8.ofNat b.toNat) = .int .u8 b := by
            show Value.int .u8 (((UInt8.ofNat b.toNat).toNat : Nat) : Int) = .int .u8 b
            rw [UInt8.toNat_ofNat_of_lt' (show b.toNat < 256 by omega)]
            congr 1; omega
          rw [hies, Instr.fill]
          dsimp only
          rw [Nat.mul_one, if_neg (by simp [Value.cells]; omega), Instr.fill, fill_over _ _ _ (by simp [Value.cells]; omega)]
          congr 2
          have := over_bs l i (UInt8.ofNat b.toNat) [] (by omega)
          rw [List.append_nil, List.append_nil, Nat.zero_add, hu8] at this
          exact this
        have hbuilt : ∀ ps cells, Instr.fill (fun i => some (i * ie.size, ie.size)) (bs.map u8w).toArray ps = some cells → P.built t ps = some cells := by
          intro ps cells hps
          unfold Program.built
          simp only [hi, hu, hzz, hie, hcz]
          exact hps
        split at hk
        · match hps : parts.toList, hp with
          | [], _ =>
            refine wp_of_run (hstep (bs.map u8w).toArray ?_) (hf.same h hk (.w (.agg (by simpa using RL.cons (R.bs hlen.1) RL.nil))))
            refine hbuilt _ _ ?_
            rw [Array.toList_map, hps]
            rfl
        · rename_i i1 b1
          obtain ⟨⟨c1, c2, c3⟩, hF⟩ := hk
          match hps : parts.toList, hp with
          | [(j, x)], ⟨hij, hv, _⟩ =>
            subst hij
            refine wp_of_run (hstep ((bs.set i1 (UInt8.ofNat b1.toNat)).map u8w).toArray ?_) (hf.same h hF (.w (.agg (by simpa using RL.cons (R.bs (show (bs.set i1 (UInt8.ofNat b1.toNat)).length = m by rw [List.length_set]; exact hlen.1)) RL.nil))))
            refine hbuilt _ _ ?_
            rw [Array.toList_map, hps, List.map_cons, List.map_nil, hv.lit_inv]
            exact hset bs i1 b1 hlen.1 c1 c2 c3
          | (_ :: _ :: _), h => exact h.2.2.elim
        · rename_i i1 b1 i2 b2
          obtain ⟨⟨c1, d1, c2, c3, d2, d3⟩, hF⟩ := hk
          match hps : parts.toList, hp with
          | [(j, x), (j2, y)], ⟨hij, hv, hij2, hv2, _⟩ =>
            subst hij hij2
            refine wp_of_run (hstep (((bs.set i1 (UInt8.ofNat b1.toNat)).set i2 (UInt8.ofNat b2.toNat)).map u8w).toArray ?_) (hf.same h hF (.w (.agg (by simpa using RL.cons (R.bs (show ((bs.set i1 (UInt8.ofNat b1.toNat)).set i2 (UInt8.ofNat b2.toNat)).length = m by rw [List.length_set, List.length_set]; exact hlen.1)) RL.nil))))
            refine hbuilt _ _ ?_
            rw [Array.toList_map, hps, List.map_cons, List.map_cons, List.map_nil, hv.lit_inv, hv2.lit_inv]
            have e1 := hset bs i1 b1 hlen.1 c1 c2 c3
            have e2 := hset (bs.set i1 (UInt8.ofNat b1.toNat)) i2 b2 (by rw [List.length_set]; exact hlen.1) d1 d2 d3
            rw [Instr.fill] at e1 ⊢
            dsimp only at e1 ⊢
            split at e1
            · cases e1
            · rename_i hno
              rw [if_neg hno]
              rw [Instr.fill] at e1
              have e3 := Option.some.inj e1
              rw [e3]
              exact e2
          | [_], h => exact h.2.2.elim
          | (_ :: _ :: _ :: _), h => exact h.2.2.2.2.elim
        · exact hk.elim
      · exact hk.elim
    · rename_i fs
      dsimp only at hk
      cases hm : fs.toList.mapM (fun f => (P.info? f.type).map fun i => (f.offset, i.size)) with
      | none => rw [hm] at hk; exact hk.elim
      | some places =>
        rw [hm] at hk
        dsimp only at hk
        cases hfl : fillPC places vs l with
        | none => rw [hfl] at hk; exact hk.elim
        | some l' =>
          rw [hfl] at hk
          obtain ⟨cells', h1, h2⟩ := fillPC_ok hp hr hfl
          refine wp_of_run (hstep cells' ?_) (hf.same h hk (.w (.agg h2)))
          unfold Program.built
          simp only [hi, hu, hzz, hm]
          rw [← h1]
          simp
end
end Go.Proofs.YtplkplegjoabgaaGreatDoor.Pv


namespace Go.Proofs.YtplkplegjoabgaaGreatDoor.Pv
open Go.RowKit
section
variable {P : Program} {A : Amb} {s : St} {a : Act} {w : World} {env : Env} {o : Oper} {K : Act → World → Prop} {Q : Exit → Act → World → Prop} {F : Option Bool → PV → Wr → Prop}
theorem slTy_ok {t e n b : Nat} (h : slTyOf P t = some (e, n, b)) : SlTy P t e n b := by
  unfold slTyOf at h
  cases hu : P.underlying t with
  | none => rw [hu] at h; cases h
  | some d =>
    rw [hu] at h
    cases d <;> try (cases h; done)
    rename_i e0
    dsimp only at h
    cases hi : P.info? e0 with
    | none => rw [hi] at h; cases h
    | some i =>
      rw [hi] at h
      dsimp only at h
      cases hz : i.zero with
      | none => rw [hz] at h; cases h
      | some z =>
        rw [hz] at h
        dsimp only at h
        cases h1 : Nat.beq z.cells.size i.size <;> cases h2 : Nat.blt 0 i.size <;> cases h3 : Nat.blt 0 i.bytes <;> simp only [h1, h2, h3] at h <;> try (cases h; done)
        cases h
        have h2' : 1 ≤ i.size := by simpa [Nat.blt] using h2
        have h3' : 1 ≤ i.bytes := by simpa [Nat.blt] using h3
        exact ⟨hu, ⟨i, z, hi, hz, rfl, rfl, beqT h1⟩, h2', h3'⟩
theorem GamE.new_tail (h : GamE A s a w env) (nm : Nat) (n len cap : Nat) {t : TypeId} {fr : Nat × Nat} {f : Nat → List PC} {cs : Array Value} {xs : List Value} (hx : xs.length = len * n) (hc : len ≤ cap) (hm : cap ≤ maxLen) (hcs : cs.size = cap * n) (ht : cs.toList.take (len * n) = xs)
    (hr : ∀ i, i < len → RL (ctxOf A w env) (f i) ((xs.drop (i * n)).take n)) {w' : World} (hE : Ext w w') (hw : w'.heap[w.heap.size]? = some (.cells cs t fr)) (hfr : cs.size ≤ fr.1) :
    ∃ env', GamE A { s with o := [(nm, none, fresh s nm, .arr mkT n len f)] ++ s.o } a w' env' ∧ RV (ctxOf A w' env') (pv1 (.ow nm (fresh s nm) n 0 len)) (.slice (some ⟨w.heap.size, 0, none⟩) len cap) := by
  obtain ⟨h1, h2⟩ := h.new (w' := w') nm none (.slice (some ⟨w.heap.size, 0, none⟩) len cap) (.arr mkT n len f) hE (fun b hb => by cases hb; exact ⟨lt_of_heap hw, Nat.le_refl _⟩)
    (fun hle _ => ⟨xs, ⟨hx, .inr ⟨_, cap, cs, t, fr, rfl, hw, .inr ⟨rfl, hfr⟩, hc, hm, hcs, ht⟩⟩, fun i hi => (hr i hi).le hle⟩)
  refine ⟨_, h1, .w (.one (.ow ⟨_, _, rfl⟩ ⟨_, _, updE_eq _ _ _ _, Nat.le_refl _, fun _ => ⟨_, _, _, rfl, by omega, ?_⟩⟩))⟩
  simp [add_lit]
theorem GamE.new_row (h : GamE A s a w env) (nm : Nat) (e n len cap : Nat) {f : Nat → List PC} {cs : Array Value} {xs : List Value} (hx : xs.length = len * n) (hc : len ≤ cap) (hm : cap ≤ maxLen) (hcs : cs.size = cap * n) (ht : cs.toList.take (len * n) = xs)
    (hr : ∀ i, i < len → RL (ctxOf A w env) (f i) ((xs.drop (i * n)).take n)) {w' : World} (hE : Ext w w') (hw : w'.heap[w.heap.size]? = some (.cells cs e (0, 0))) :
    ∃ env', GamE A { s with o := [(nm, none, fresh s nm, .arr e n len f)] ++ s.o } a w' env' ∧ RV (ctxOf A w' env') (pv1 (.ow nm (fresh s nm) n 0 len)) (.slice (some ⟨w.heap.size, 0, none⟩) len cap) := by
  obtain ⟨h1, h2⟩ := h.new (w' := w') nm none (.slice (some ⟨w.heap.size, 0, none⟩) len cap) (.arr e n len f) hE (fun b hb => by cases hb; exact ⟨lt_of_heap hw, Nat.le_refl _⟩)
    (fun hle _ => ⟨xs, ⟨hx, .inr ⟨_, cap, cs, e, (0, 0), rfl, hw, .inl ⟨rfl, rfl⟩, hc, hm, hcs, ht⟩⟩, fun i hi => (hr i hi).le hle⟩)
  refine ⟨_, h1, .w (.one (.ow ⟨_, _, rfl⟩ ⟨_, _, updE_eq _ _ _ _, Nat.le_refl _, fun _ => ⟨_, _, _, rfl, by omega, ?_⟩⟩))⟩
  simp [add_lit]
theorem partsM_fill {C : Ctx} {n : Nat} : ∀ {vs : List (Nat × PV)} {l : List (Nat × Operand)} {k : Nat} {pcs : List (List PC)} {cells : Array Value}, PartsR C a vs l → partsM n k vs = some pcs → (k + vs.length) * n ≤ cells.size →
    ∃ xs : List Value, Instr.fill (fun i => some (i * n, n)) cells (l.map fun q => (q.1, a.eval q.2)) = some (over cells.toList (k * n) xs).toArray ∧ xs.length = vs.length * n ∧ pcs.length = vs.length ∧ ∀ i, i < pcs.length → RL C (pcs.getD i []) ((xs.drop (i * n)).take n)
  | [], [], k, pcs, cells, _, hf, _ => by
    simp [partsM] at hf
    subst hf
    exact ⟨[], by simp [Instr.fill, over], by simp, rfl, fun i hi => by simp at hi⟩
  | [], _ :: _, _, _, _, hp, _, _ => hp.elim
  | _ :: _, [], _, _, _, hp, _, _ => hp.elim
  | (i, v) :: vs, (j, x) :: l, k, pcs, cells, hp, hf, hsz => by
    obtain ⟨rfl, hv, hp⟩ := hp
    unfold partsM at hf
    cases hb : Nat.beq i k <;> cases v <;> cases hr : partsM n (k + 1) vs <;> simp only [hb, hr] at hf <;> try (cases hf; done)
    rename_i pw r
    cases hb2 : Nat.beq (widths pw.cells) n <;> rw [hb2] at hf
    · cases hf
    cases hf
    obtain rfl := beqT hb
    cases hv with
    | w hv =>
      have hc := hv.cells'
      have hn : (a.eval x).cells.toList.length = n := by rw [hc.width, beqT hb2]
      have hn' : (a.eval x).cells.size = n := by rw [← Array.length_toList]; exact hn
      simp only [List.length_cons] at hsz
      have hcl : cells.toList.length = cells.size := Array.length_toList
      have e1 : (i + (vs.length + 1)) * n = i * n + n + vs.length * n := by rw [Nat.add_mul, Nat.add_mul, Nat.one_mul]; omega
      have e2 : (i + 1) * n = i * n + n := by rw [Nat.add_mul, Nat.one_mul]
      have e3 : (i + 1 + vs.length) * n = i * n + n + vs.length * n := by rw [Nat.add_mul, Nat.add_mul, Nat.one_mul]
      have hsz2 : (over cells.toList (i * n) (a.eval x).cells.toList).length = cells.size := by rw [over_length (by rw [hn, hcl]; omega), hcl]
      obtain ⟨xs, h1, h2, h3, h4⟩ := partsM_fill (cells := (over cells.toList (i * n) (a.eval x).cells.toList).toArray) hp hr (by rw [List.size_toArray, hsz2]; omega)
      refine ⟨(a.eval x).cells.toList ++ xs, ?_, by rw [List.length_append, hn, h2, List.length_cons, Nat.add_mul, Nat.one_mul, Nat.add_comm], by simp [h3], fun q hq => ?_⟩
      · rw [List.map_cons, Instr.fill]
        dsimp only
        rw [if_neg (by simp; omega), fill_over cells _ (i * n) (by omega), h1]
        congr 2
        simp only at hsz2 ⊢
        apply List.ext_getElem?
        intro q
        rw [over_getElem? (by rw [hsz2, h2]; omega), over_getElem? (by rw [hn, hcl]; omega), over_getElem? (by rw [List.length_append, hn, h2, hcl]; omega)]
        rw [List.length_append, hn, h2]
        by_cases c1 : (i + 1) * n ≤ q ∧ q < (i + 1) * n + vs.length * n
        · rw [if_pos c1, if_pos (by omega), List.getElem?_append_right (by omega), hn]
          congr 1; omega
        · rw [if_neg c1]
          by_cases c2 : i * n ≤ q ∧ q < i * n + n
          · rw [if_pos c2, if_pos (by omega), List.getElem?_append_left (by omega)]
          · rw [if_neg c2, if_neg (by omega)]
      · cases q with
        | zero =>
          rw [Nat.zero_mul, List.drop_zero, List.take_append_of_le_length (by omega), List.take_of_length_le (by omega)]
          exact hc
        | succ q =>
          have := h4 q (by simpa using hq)
          have e5 : ((a.eval x).cells.toList ++ xs).drop ((q + 1) * n) = xs.drop (q * n) := by
            rw [show (q + 1) * n = n + q * n from by rw [Nat.add_mul, Nat.one_mul]; exact Nat.add_comm _ _, ← List.drop_drop, List.drop_left' hn]
          rw [List.getD_cons_succ, e5]
          exact this
theorem buildSlice_ok (h : GamE A s a w env) {nm : Nat} {t len : Nat} {parts : Array (Nat × Operand)} (ho : o.op = .buildSlice t len parts) {vs : List (Nat × PV)} (hp : PartsR (ctxOf A w env) a vs parts.toList) (hk : (buildSliceM P nm t len vs).ok none s F) (hf : Fin A s a o K F) : o.wp P a w K Q := by
  unfold buildSliceM at hk
  cases hsl : slTyOf P t with
  | none => rw [hsl] at hk; exact hk.elim
  | some q =>
    obtain ⟨e, n, by'⟩ := q
    rw [hsl] at hk
    dsimp only at hk
    cases hpm : partsM n 0 vs <;> cases hb : Nat.beq vs.length len <;> cases hb2 : Nat.ble (len * n) 16777216 <;> simp only [hpm, hb, hb2] at hk <;> try exact hk.elim
    rename_i pcs
    obtain ⟨hu, ⟨ie, z, hi, hz, hsz, hby, hzs⟩, hpos, hbp⟩ := slTy_ok hsl
    obtain rfl := beqT hb
    have hlim : vs.length * n ≤ 16777216 := Nat.le_of_ble_eq_true hb2
    obtain ⟨xs, h1, h2, h3, h4⟩ := partsM_fill (a := a) (k := 0) (cells := (Array.range (vs.length * n)).map (z.cells[· % z.cells.size]!)) hp hpm (by simp)
    rw [Nat.zero_mul] at h1
    have hov : (over ((Array.range (vs.length * n)).map (z.cells[· % z.cells.size]!)).toList 0 xs) = xs := by
      unfold over
      rw [List.take_zero, List.nil_append, Nat.zero_add, List.drop_of_length_le (by simp [h2]), List.append_nil]
    rw [hov] at h1
    have hml : vs.length ≤ 16777216 := Nat.le_trans (Nat.le_mul_of_pos_right _ hpos) hlim
    obtain ⟨env', g1, g2⟩ := h.new_row nm e n vs.length vs.length (cs := xs.toArray) (xs := xs) h2 (Nat.le_refl _) (by unfold maxLen; omega) (by simpa using h2) (by rw [List.toList_toArray, ← h2, List.take_length]) (fun i hi => h4 i (by rw [h3]; exact hi)) (w' := w.alloc (.cells xs.toArray e)) ((Ext.refl w).alloc _) (heap_alloc_new w _)
    refine wp_of_run (v := .slice (some ⟨w.heap.size, 0, none⟩) vs.length vs.length) (w' := w.alloc (.cells xs.toArray e)) ?_ (hf _ _ _ _ _ hk g1 g2)
    by_cases h0 : vs.length * n = 0
    · have hxs : xs = [] := List.eq_nil_of_length_eq_zero (by rw [h2]; exact h0)
      have hpar : (parts.map fun x => (x.1, a.eval x.2)).toList = parts.toList.map fun x => (x.1, a.eval x.2) := by simp
      have h1' : Instr.fill (fun i => some (i * n, n)) #[] (parts.toList.map fun x => (x.1, a.eval x.2)) = some #[] := by
        rw [h0, hxs, show Array.range 0 = #[] from rfl] at h1
        simpa using h1
      simp [execOp, ho, Instr.buildSlice, run_underlying hu, sizeOf, typeInfo, hi, hsz, h0, newRow, hxs, show Array.range 0 = (#[] : Array Nat) from rfl, h1']
    · have := run_buildSlice (P := P) w t e vs.length (parts.map fun x => (x.1, a.eval x.2)) xs.toArray ie z hu hi hz (by rw [hsz]; omega) (by rw [hsz]; exact h0) (by rw [hsz]; simpa using h1)
      simp [execOp, ho, this]
def Bnd (d : Int) (x : Option Value) (i : Int) : Prop := (x = none ∧ i = d) ∨ ∃ k, x = some (.int k i)
theorem run_sliceBounds {len cap : Nat} {lo hi : Option Value} {l h : Int} (b1 : Bnd 0 lo l) (b2 : Bnd len hi h) (h0 : 0 ≤ l) (h1 : l ≤ h) (h2 : h ≤ len) (hc : len ≤ cap) (isS : Bool) (w : World) :
    (Instr.sliceBounds isS len cap lo hi none).run P w = .ok (l.toNat, h.toNat, cap) w := by
  rcases b1 with ⟨rfl, rfl⟩ | ⟨k, rfl⟩ <;> rcases b2 with ⟨rfl, rfl⟩ | ⟨k', rfl⟩
  · simp [Instr.sliceBounds]
  · simp [Instr.sliceBounds, Instr.sliceBound, asIntOf, show 0 ≤ h by omega, show h ≤ (cap : Int) by omega]
  · simp [Instr.sliceBounds, Instr.sliceBound, asIntOf, h0, show l ≤ (len : Int) by omega]
  · simp [Instr.sliceBounds, Instr.sliceBound, asIntOf, show 0 ≤ h by omega, show h ≤ (cap : Int) by omega, h0, show l ≤ max h 0 by omega]
def OptR (C : Ctx) (a : Act) : Option Operand → Option PV → Prop
  | none, none => True
  | some x, some v => RV C v (a.eval x)
  | _, _ => False
theorem evOpt_ok (h : GamE A s a w env) {x : Option Operand} {k : Option PV → M} (hk : (evOpt x k).ok none s F) : ∃ pv, OptR (ctxOf A w env) a x pv ∧ (k pv).ok none s F := by
  cases x with
  | none => exact ⟨none, trivial, hk⟩
  | some x =>
    obtain ⟨pv, h1, h2⟩ := evO_ok h hk
    exact ⟨some pv, h1, h2⟩
theorem window_window (vs : List Value) {n l m i : Nat} (hi : i < m) : ((((vs.drop (l * n)).take (m * n)).drop (i * n)).take n) = (vs.drop ((l + i) * n)).take n := by
  apply List.ext_getElem?
  intro q
  have h1 : (i + 1) * n ≤ m * n := Nat.mul_le_mul_right n hi
  rw [Nat.add_mul, Nat.one_mul] at h1
  have h2 : (l + i) * n = l * n + i * n := Nat.add_mul _ _ _
  rw [List.getElem?_take, List.getElem?_drop, List.getElem?_take, List.getElem?_drop, List.getElem?_take, List.getElem?_drop]
  by_cases hq : q < n
  · rw [if_pos hq, if_pos hq, if_pos (by omega)]
    congr 1; omega
  · rw [if_neg hq, if_neg hq]
theorem slice_ok (h : GamE A s a w env) {t : TypeId} {x : Operand} {lo hi : Option Operand} (ho : o.op = .slice t x lo hi none) {p : PV} (hp : RV (ctxOf A w env) p (a.eval x)) {lv hv : Option PV}
    (hl : OptR (ctxOf A w env) a lo lv) (hh : OptR (ctxOf A w env) a hi hv)
    (hk : (sliceM P t p lv hv).ok none s F) (hf : Fin A s a o K F) : o.wp P a w K Q := by
  have hbnd : ∀ {d : Int} {x : Option Operand} {xv : Option PV} {k : Int → M}, OptR (ctxOf A w env) a x xv →
      (bndM d xv k).ok none s F → ∃ i, Bnd d (x.map a.eval) i ∧ (k i).ok none s F := by
    intro d x xv k hx hk
    unfold bndM at hk
    cases x <;> cases xv <;> try exact hx.elim
    · exact ⟨d, .inl ⟨rfl, rfl⟩, hk⟩
    · rename_i x v
      dsimp only at hk
      split at hk
      · rename_i kk i hlit
        rw [isLit_ok hlit] at hx
        have : a.eval x = .int kk i := RV.lit_inv (show RV _ _ _ from hx)
        exact ⟨i, .inr ⟨kk, by rw [Option.map_some, this]⟩, hk⟩
      · exact hk.elim
  unfold sliceM at hk
  cases hu : P.underlying t with
  | none => rw [hu] at hk; exact hk.elim
  | some d =>
    rw [hu] at hk
    cases d <;> try exact hk.elim
    · rename_i e
      dsimp only at hk
      split at hk
      · rename_i n len f
        cases hsz : szOf P e with
        | none => rw [hsz] at hk; exact hk.elim
        | some n' =>
          rw [hsz] at hk
          dsimp only at hk
          cases hb : Nat.beq n n' <;> rw [hb] at hk
          · exact hk.elim
          obtain rfl := beqT hb
          dsimp only at hk
          have hk1 := hbnd (x := lo) hl hk
          clear hk
          obtain ⟨l, hbl, hk⟩ := hk1
          have hk1 := hbnd (x := hi) hh hk
          clear hk
          obtain ⟨hi', hbh, hk⟩ := hk1
          obtain ⟨⟨h0, h1, h2⟩, hF⟩ := hk
          generalize hq : a.eval x = q at hp
          cases hp.inv with
          | @sl _ _ _ _ _ vs hr hbb he =>
            obtain ⟨g1, A1, c, rfl, g2, g3, g4⟩ := hr
            obtain ⟨ie, hie, hies⟩ := szOf_info hsz
            have hrun := run_sliceBounds (P := P) (cap := c) hbl hbh h0 h1 h2 g2 true w
            refine wp_of_run (v := .slice (if c = l.toNat then A1 else A1.map (·.add (l.toNat * n))) (hi'.toNat - l.toNat) (c - l.toNat)) (w' := w) ?_ (hf.same h hF (.w (.one ?_)))
            · have hnp : ∀ m e', P.underlying t ≠ some (.array m e') := by rw [hu]; intro m e' hh; cases hh
              simp [execOp, ho, hq, Instr.sliceAt, run_underlying hu, Instr.slice, hrun, sizeOf, typeInfo, hie, hies]
            · have hnum : (hi' - l).toNat = hi'.toNat - l.toNat := by omega
              rw [hnum]
              have hle : hi'.toNat ≤ len := by omega
              have hmul : (l.toNat + (hi'.toNat - l.toNat)) * n ≤ len * n := Nat.mul_le_mul_right n (by omega)
              rw [Nat.add_mul] at hmul
              refine R.sl (vs := (vs.drop (l.toNat * n)).take ((hi'.toNat - l.toNat) * n)) ⟨by simp; omega, _, _, rfl, by omega, by omega, fun hlt => ?_⟩ (fun g hg hlt => ?_) (fun i hi2 => ?_)
              · obtain ⟨b, o1, rfl, hcell⟩ := g4 (by omega)
                rw [if_neg (by omega)]
                refine ⟨b, o1 + l.toNat * n, by simp [add_lit], fun j u hj => ?_⟩
                rw [List.getElem?_take] at hj
                split at hj
                · rw [List.getElem?_drop] at hj
                  have := hcell _ u hj
                  rwa [← Nat.add_assoc] at this
                · cases hj
              · obtain ⟨b, o1, rfl, hcell⟩ := g4 (by omega)
                rw [if_neg (by omega)] at hg
                simp only [Option.map_some, add_lit, Value.ownBlock, Option.some.injEq] at hg
                subst hg
                exact hbb b rfl (by omega)
              · rw [window_window vs hi2]
                exact he _ (by omega)
      · exact hk.elim
    · rename_i n e
      dsimp only at hk
      split at hk
      · rename_i x1 ver off hsz
        obtain ⟨g, vr, ob, hfo, hk⟩ := hk
        have hk2 := guardT_ok hk
        clear hk
        obtain ⟨hg, hk⟩ := hk2
        obtain ⟨hd, hev, hob⟩ := obj_at h hfo hg
        cases hb : Nat.beq ver vr <;> cases ob <;> simp only [hb] at hk <;> try exact hk.elim
        rename_i bt l
        obtain rfl := beqT hb
        cases hs : bsAt l off with
        | none => rw [hs] at hk; exact hk.elim
        | some q =>
          obtain ⟨m, bs⟩ := q
          rw [hs] at hk
          dsimp only at hk
          cases hb2 : Nat.beq m n <;> cases hb3 : Nat.ble n 65536 <;> simp only [hb2, hb3] at hk <;> try exact hk.elim
          obtain rfl := beqT hb2
          obtain ⟨ie, hie, hies⟩ := szOf_info hsz
          obtain ⟨g1, rfl, hpv⟩ := hp.pt_inv hev
          cases lo <;> cases hi <;> try (first | exact hl.elim | exact hh.elim)
          obtain ⟨g2, cs, e2, hB, hR⟩ := hob
          cases e2
          obtain ⟨k1, k2, k3⟩ := bsAt_range hR hs
          have hF : F none (pv1 (.ob x1 ver off m)) [] := hk
          have hmx : m ≤ maxLen := by
            have := Nat.le_of_ble_eq_true hb3
            unfold maxLen; omega
          refine wp_of_run (v := .slice (some ⟨g1, off, none⟩) m m) (w' := w) ?_ (hf.same h hF (.w (.one (.ob ⟨_, _, rfl⟩ ⟨ver, _, hev, Nat.le_refl _, fun _ => ⟨g1, m, rfl, Nat.le_refl _, hmx, rfl⟩⟩))))
          by_cases hm0 : m = 0
          · subst hm0
            simp [execOp, ho, hpv, Instr.sliceAt, run_underlying hu, Instr.sureAddr, Instr.sliceBounds, sizeOf, typeInfo, hie]
          · simp [execOp, ho, hpv, Instr.sliceAt, run_underlying hu, Instr.sureAddr, Instr.sliceBounds, sizeOf, typeInfo, hie, Addr.add]
      · exact hk.elim
end
end Go.Proofs.YtplkplegjoabgaaGreatDoor.Pv


namespace Go.Proofs.YtplkplegjoabgaaGreatDoor.Pv
open Go.RowKit
theorem reads_slice {w : World} {n len off m : Nat} {A0 : Option Addr} {c0 : Nat} {vs : List Value} (hn : off + m ≤ len) (h : Reads w n (.slice A0 len c0) len vs) : Reads w n (.slice (A0.map (·.add (off * n))) m (c0 - off)) m ((vs.drop (off * n)).take (m * n)) := by
  obtain ⟨h1, A1, c1, e, h2, h3, h4⟩ := h
  cases e
  have hm : (off + m) * n ≤ len * n := Nat.mul_le_mul_right n hn
  rw [Nat.add_mul] at hm
  refine ⟨by simp; omega, _, _, rfl, by omega, by omega, fun hp => ?_⟩
  obtain ⟨b, o, rfl, hc⟩ := h4 (by omega)
  refine ⟨b, o + off * n, by simp [add_lit], fun j u hj => ?_⟩
  rw [List.getElem?_take] at hj
  split at hj
  · rw [List.getElem?_drop] at hj
    have := hc _ u hj
    rwa [← Nat.add_assoc] at this
  · cases hj
theorem byF_cells (C : Ctx) (l : List UInt8) (i : Nat) (hi : i < l.length) : RL C (byF l i) (((l.map u8w).drop (i * 1)).take 1) := by
  have : ((l.map u8w).drop (i * 1)).take 1 = [u8w (l.getD i 0)] := by
    apply List.ext_getElem?
    intro q
    rw [List.getElem?_take, List.getElem?_drop, Nat.mul_one]
    cases q with
    | zero => rw [if_pos (by omega), Nat.add_zero, u8w_getD l i hi]; rfl
    | succ q => rw [if_neg (by omega)]; simp
  rw [this]
  exact .cons (.lit rfl) .nil
section
variable {P : Program} {A : Amb} {s : St} {a : Act} {w : World} {env : Env} {o : Oper} {K : Act → World → Prop} {Q : Exit → Act → World → Prop} {F : Option Bool → PV → Wr → Prop}
theorem cold_le (C : Ctx) : C.cold.Le C := ⟨Nat.le_refl _, fun _ _ h => ⟨h, rfl⟩, fun _ _ _ h => by cases h⟩
theorem ones_of_elems {C : Ctx} {n m : Nat} {f : Nat → List PC} {news : List Value} (hl : news.length = m * n) (h : ∀ i, i < m → RL C (f i) ((news.drop (i * n)).take n)) : AllOne news := by
  intro u hu
  obtain ⟨j, hj, rfl⟩ := List.mem_iff_getElem.1 hu
  have hn : 0 < n := by
    rcases Nat.eq_zero_or_pos n with h0 | h0
    · rw [h0, Nat.mul_zero] at hl; omega
    · exact h0
  have hi : j / n < m := Nat.div_lt_of_lt_mul (by rw [Nat.mul_comm, ← hl]; exact hj)
  refine (h (j / n) hi).ones _ ?_
  have h1 : j / n * n + j % n = j := Nat.div_add_mod' j n
  have h2 : j % n < n := Nat.mod_lt _ hn
  refine List.mem_of_getElem? (i := j % n) ?_
  rw [List.getElem?_take, if_pos h2, List.getElem?_drop, h1, List.getElem?_eq_getElem hj]
theorem src_ok (h : GamE A s a w env) {n : Nat} {v : PV} {val : Value} (hv : RV (ctxOf A w env) v val) {k : Nat → (Nat → List PC) → M} (hk : (srcM n v k).ok none s F) :
    ∃ m f news, Reads w n val m news ∧ (∀ i, i < m → RL (ctxOf A w env) (f i) ((news.drop (i * n)).take n)) ∧ (k m f).ok none s F := by
  unfold srcM at hk
  split at hk
  · rename_i n' len f
    cases hb : Nat.beq n n' <;> rw [hb] at hk
    · exact hk.elim
    obtain rfl := beqT hb
    cases hv.inv with
    | sl hr hbb he => exact ⟨len, f, _, hr, fun i hi => (he i hi).le (cold_le _), hk⟩
  · rename_i x ver n' off len
    obtain ⟨g, vr, ob, hfo, hk⟩ := hk
    have hk2 := guardT_ok hk
    clear hk
    obtain ⟨hg, hk⟩ := hk2
    obtain ⟨hd, hev, hob⟩ := obj_at h hfo hg
    cases hb : Nat.beq ver vr <;> cases hb2 : Nat.beq n n' <;> cases ob <;> simp only [hb, hb2] at hk <;> try exact hk.elim
    rename_i e m tot f
    obtain rfl := beqT hb
    obtain rfl := beqT hb2
    cases hb3 : Nat.beq n m <;> rw [hb3] at hk
    · exact hk.elim
    obtain rfl := beqT hb3
    obtain ⟨hle, hk⟩ := hk
    have hle' : off + len ≤ tot := hle
    obtain ⟨A0, n0, c0, rfl, hle0, rfl⟩ := hv.ow_inv hev
    obtain ⟨vs, hown, hel⟩ := hob
    refine ⟨len, _, (vs.drop (off * n)).take (len * n), ?_, fun i hi => ?_, hk⟩
    · have hm : (off + len) * n ≤ tot * n := Nat.mul_le_mul_right n hle'
      rw [Nat.add_mul] at hm
      have hvl := hown.1
      rcases hown.2 with ⟨e0, rfl⟩ | ⟨g1, cap, cur, t', fr, e0, hgg, hfr, hnc, hcm, hcs, htake⟩
      · cases e0
        have h0 : len = 0 := by omega
        subst h0
        have h1 : off = 0 := by omega
        subst h1
        exact ⟨by simp, _, _, rfl, by omega, by omega, fun h => by omega⟩
      · have hrg := own_range (g := g1) (by rw [← e0]; exact hown)
        cases e0
        refine ⟨by simp; omega, _, _, rfl, by omega, by omega, fun hn => ⟨g1, off * n, by simp [add_lit], fun j u hj => ?_⟩⟩
        have := range_drop hrg (off * n) (len * n) j u hj
        rwa [Nat.zero_add] at this
    · rw [window_window vs hi]
      exact hel _ (by omega)
  · rename_i x ver off len
    obtain ⟨g, vr, ob, hfo, hk⟩ := hk
    have hk2 := guardT_ok hk
    clear hk
    obtain ⟨hg, hk⟩ := hk2
    obtain ⟨hd, hev, hob⟩ := obj_at h hfo hg
    cases hb : Nat.beq ver vr <;> cases hb2 : Nat.beq n 1 <;> cases ob <;> simp only [hb, hb2] at hk <;> try exact hk.elim
    rename_i bt l
    obtain rfl := beqT hb
    obtain rfl := beqT hb2
    cases hs : bsAt l off with
    | none => rw [hs] at hk; exact hk.elim
    | some q =>
      obtain ⟨m, bs⟩ := q
      rw [hs] at hk
      obtain ⟨hlm, hk⟩ := hk
      have hlm' : len ≤ m := hlm
      obtain ⟨g1, c, rfl, hc1, hc2, rfl⟩ := hv.ob_inv hev
      obtain ⟨g2, cs, e2, hB, hR⟩ := hob
      cases e2
      obtain ⟨k1, k2, k3⟩ := bsAt_range hR hs
      have hrg := range_drop hB.range off m
      rw [Nat.zero_add, k2] at hrg
      refine ⟨len, _, (bs.map u8w).take len, ⟨by simp; omega, _, c, rfl, hc1, hc2, fun hn => ⟨g1, off, rfl, fun j u hj => ?_⟩⟩, fun i hi => ?_, hk⟩
      · rw [List.getElem?_take] at hj
        split at hj
        · exact hrg j u hj
        · cases hj
      · have hcell := u8w_getD bs i (by omega)
        have e1 : (((bs.map u8w).take len).drop (i * 1)).take 1 = [u8w (bs.getD i 0)] := by
          apply List.ext_getElem?
          intro q
          rw [List.getElem?_take, List.getElem?_drop, List.getElem?_take, Nat.mul_one]
          cases q with
          | zero => rw [if_pos (by omega), if_pos (by omega), Nat.add_zero, hcell]; rfl
          | succ q => rw [if_neg (by omega)]; simp
        rw [e1]
        exact .cons (.lit rfl) .nil
  · have := hv.lit_inv
    subst this
    exact ⟨0, _, [], Reads.nil w n, fun i hi => by omega, hk⟩
  · exact hk.elim
theorem appF_elems {C : Ctx} {n tot k : Nat} {f f' : Nat → List PC} {vs news : List Value} (hl : vs.length = tot * n) (h1 : ∀ i, i < tot → RL C (f i) ((vs.drop (i * n)).take n)) (h2 : ∀ i, i < k → RL C (f' i) ((news.drop (i * n)).take n)) :
    ∀ i, i < tot + k → RL C (appF tot f f' i) (((vs ++ news).drop (i * n)).take n) := by
  intro i hi
  unfold appF
  by_cases h : i < tot
  · rw [if_pos h]
    have hm : (i + 1) * n ≤ tot * n := Nat.mul_le_mul_right n h
    rw [Nat.add_mul, Nat.one_mul] at hm
    rw [List.drop_append_of_le_length (by omega), List.take_append_of_le_length (by simp; omega)]
    exact h1 i h
  · rw [if_neg h]
    have e1 : i * n = tot * n + (i - tot) * n := by rw [← Nat.add_mul]; congr 1; omega
    rw [e1, ← List.drop_drop, List.drop_left' hl]
    exact h2 _ (by omega)
theorem append_ok (h : GamE A s a w env) {nm t : Nat} {x y : Operand} (ho : o.op = .call { callee := .builtin .append, args := #[x, y], argTypes := #[t, t] }) {p v : PV} (hp : RV (ctxOf A w env) p (a.eval x)) (hv : RV (ctxOf A w env) v (a.eval y)) (hk : (appendM P nm t p v).ok none s F) (hf : Fin A s a o K F) : o.wp P a w K Q := by
  unfold appendM at hk
  cases hsl : slTyOf P t with
  | none => rw [hsl] at hk; exact hk.elim
  | some q =>
    obtain ⟨e, n, by'⟩ := q
    rw [hsl] at hk
    dsimp only at hk
    have hT := slTy_ok hsl
    split at hk
    · rename_i x1 ver n' off len
      obtain ⟨g, vr, ob, hfo, hk⟩ := hk
      have hk2 := guardT_ok hk
      clear hk
      obtain ⟨hg, hk⟩ := hk2
      obtain ⟨hd, hev, hob⟩ := obj_at h hfo hg
      cases hb : Nat.beq ver vr <;> cases hb2 : Nat.beq n n' <;> cases hb3 : Nat.beq off 0 <;> cases ob <;> simp only [hb, hb2, hb3] at hk <;> try exact hk.elim
      rename_i e' m tot f
      obtain rfl := beqT hb
      obtain rfl := beqT hb2
      obtain rfl := beqT hb3
      cases hb4 : Nat.beq n m <;> cases hb5 : (Nat.beq e e' && Nat.blt e mkT) <;> simp only [hb4, hb5] at hk <;> try exact hk.elim
      rw [Bool.and_eq_true] at hb5
      obtain ⟨hb5, hb6⟩ := hb5
      obtain rfl := beqT hb4
      obtain rfl := beqT hb5
      obtain ⟨htot, hk⟩ := hk
      have htot' : len = tot := htot
      have hk2 := src_ok h hv hk
      clear hk
      obtain ⟨k, f', news, hrd, hel', hk⟩ := hk2
      obtain ⟨hbytes, hk⟩ := hk
      have hF := hk.2
      obtain ⟨A0, n0, c0, rfl, hle0, hxv⟩ := hp.ow_inv hev
      obtain ⟨vs, hown, hel⟩ := hob
      have hown := hown.plain hb6
      have hvx : a.eval x = .slice A0 n0 c0 := by
        rw [hxv]
        rcases hown.2 with ⟨e0, _⟩ | ⟨g1, cap, cur, e0, _⟩
        · cases e0
          have : len = 0 := by omega
          subst this; rfl
        · cases e0
          simp [add_lit, htot']
      refine wp_app ho hT hvx hown rfl hrd (ones_of_elems hrd.1 hel') hbytes (Nat.zero_le _) (fun A' c' w' h2 h3 h4 => ?_)
      have hlt : ∀ b, (Value.slice A0 n0 c0).ownBlock = some b → b < w.heap.size := fun b hb => (hown.lt b hb).2
      obtain ⟨hg1, hle⟩ := h.upd x1 none (ver + 1) (.slice A' (tot + k) c') (.arr e n (tot + k) (appF tot f f')) (h3.mono fun b _ hb => ⟨ver, _, hev, by cases A0 <;> exact hb⟩) (fun v hd' e0 => by rw [hev] at e0; cases e0; exact .inl (Nat.lt_succ_self _))
        (fun b hb => by
          have hb' : (Value.slice A' (tot + k) c').ownBlock = some b := by cases A' <;> exact hb
          refine ⟨(h2.lt b hb').2, ?_⟩
          rcases h4 with h4 | ⟨g1, h4, h5, _⟩
          · refine .inr ⟨ver, _, hev, ?_⟩
            rw [hb'] at h4
            cases A0 <;> exact h4.symm
          · rw [hb'] at h4; cases h4; exact .inl h5)
        (fun hle _ => ⟨vs ++ news, ownX_of (B := 0) ⟨by simp [hown.1, hrd.1, Nat.add_mul], h2.2⟩, appF_elems hown.1 (fun i hi => (hel i hi).le hle) (fun i hi => (hel' i hi).le hle)⟩)
      refine hf _ _ _ _ _ hF hg1 (.w (.one (.ow ⟨_, _, rfl⟩ ⟨_, _, updE_eq _ _ _ _, Nat.le_refl _, fun _ => ⟨_, _, _, rfl, by omega, ?_⟩⟩)))
      cases A' with
      | none => simp
      | some ad => simp [Addr.add]
    · have hxv := hp.lit_inv
      have hk2 := src_ok h hv hk
      clear hk
      obtain ⟨k, f', news, hrd, hel', hk⟩ := hk2
      obtain ⟨hbytes, hF⟩ := hk
      have hown : w.ownsRow 0 e n (.slice none 0 0) 0 [] := ⟨by simp, .inl ⟨rfl, rfl⟩⟩
      refine wp_app ho hT hxv hown rfl hrd (ones_of_elems hrd.1 hel') (by simpa [hP] using hbytes) (Nat.zero_le _) (fun A' c' w' h2 h3 h4 => ?_)
      have hE : Ext w w' := h3.mono (fun b _ hb => by simp [Value.ownBlock] at hb)
      simp only [Nat.zero_add, List.nil_append] at h2 h4 ⊢
      obtain ⟨hg1, hle⟩ := h.new (w' := w') nm none (.slice A' k c') (.arr e n k f') hE
        (fun b hb => by
          have hb' : (Value.slice A' k c').ownBlock = some b := by cases A' <;> exact hb
          refine ⟨(h2.lt b hb').2, ?_⟩
          rcases h4 with h4 | ⟨g1, h4, h5, _⟩
          · rw [hb'] at h4; cases h4
          · rw [hb'] at h4; cases h4; exact h5)
        (fun hle _ => ⟨news, ownX_of h2, fun i hi => (hel' i hi).le hle⟩)
      refine hf _ _ _ _ _ hF hg1 (.w (.one (.ow ⟨_, _, rfl⟩ ⟨_, _, updE_eq _ _ _ _, Nat.le_refl _, fun _ => ⟨_, _, _, rfl, by omega, ?_⟩⟩)))
      cases A' with
      | none => simp
      | some ad => simp [Addr.add]
    · exact hk.elim
theorem retV_ok {x : Option Value} (h : (retV x).ok none s F) : ∃ v, x = some v ∧ v.oneCell' = true ∧ F none (lit1 v) [] := by
  cases x with
  | none => exact h.elim
  | some v =>
    unfold retV at h
    cases hv : v.oneCell' <;> simp only [hv] at h
    · exact h.elim
    · exact ⟨v, rfl, hv, h⟩
theorem pureRun_ok {α : Type} {w : World} : ∀ {m : Sem α} {v : α}, pureRun P m = some v → m.run P w = .ok v w := by
  intro m
  induction m with
  | pure a => intro v h; cases h; rfl
  | program k ih => intro v h; exact ih P h
  | _ => intro v h; cases h
theorem unOp_ok (h : GamE A s a w env) {op : UnOp} {t : TypeId} {x : Operand} (ho : o.op = .unOp op t x) {v : PV} (hv : RV (ctxOf A w env) v (a.eval x)) {u : Value} (hl : isLit v = some u) (hk : (retV (pureRun P (Op.unary op u))).ok none s F) (hf : Fin A s a o K F) : o.wp P a w K Q := by
  obtain ⟨r, h1, h2, hF⟩ := retV_ok hk
  rw [isLit_ok hl] at hv
  refine wp_of_run (v := r) (w' := w) ?_ (hf.same h hF (.w (.one (.lit h2))))
  have hx : a.eval x = u := RV.lit_inv (show RV _ _ _ from hv)
  simp [execOp, ho, hx, pureRun_ok (w := w) h1]
theorem pcsOf_ok {C : Ctx} : ∀ {vs : List PV} {l : List Operand} {cs : List PC}, ValsR C a vs l → pcsOf vs = some cs → RL C cs (l.map a.eval)
  | [], [], cs, _, h => by simp [pcsOf] at h; subst h; exact .nil
  | [], _ :: _, _, h, _ => h.elim
  | _ :: _, [], _, h, _ => h.elim
  | v :: vs, x :: l, cs, ⟨hv, hr⟩, h => by
    unfold pcsOf at h
    cases h1 : pvOp v <;> cases h2 : pcsOf vs <;> simp only [h1, h2] at h <;> try (cases h; done)
    cases h
    rename_i c r
    have : v = pv1 c := by
      unfold pvOp at h1
      split at h1
      · cases h1; rfl
      · cases h1
    subst this
    exact .cons (xs := [a.eval x]) (RV.inv (show RV _ _ _ from hv)) (pcsOf_ok hr h2)
theorem makeFunc_ok (h : GamE A s a w env) {fn : Fn} {first cap : Array Operand} (ho : o.op = .makeFunc fn first cap) {fs cs : List PV} {fp cp : List PC} (h1 : ValsR (ctxOf A w env) a fs first.toList) (h2 : ValsR (ctxOf A w env) a cs cap.toList) (h3 : pcsOf fs = some fp) (h4 : pcsOf cs = some cp)
    (hF : F none (pv1 (.fn fn fp cp)) []) (hf : Fin A s a o K F) : o.wp P a w K Q := by
  refine wp_of_run (v := .func fn (first.map a.eval) (cap.map a.eval)) (w' := w) ?_ (hf.same h hF (.w (.one ?_)))
  · simp [execOp, ho, Instr.makeFunc]
  · have := R.fn (f := fn) (pcsOf_ok h1 h3) (pcsOf_ok h2 h4)
    have e1 : (first.toList.map a.eval).toArray = first.map a.eval := by apply Array.ext'; simp
    have e2 : (cap.toList.map a.eval).toArray = cap.map a.eval := by apply Array.ext'; simp
    rw [e1, e2] at this
    exact this
theorem bytesM_ok (h : GamE A s a w env) {v : PV} {val : Value} (hv : RV (ctxOf A w env) v val) {k : List UInt8 → M} (hk : (bytesM v k).ok none s F) : ∃ l, Reads w 1 val l.length (l.map u8w) ∧ (k l).ok none s F := by
  unfold bytesM at hk
  split at hk
  · rename_i n len f
    cases hb : Nat.beq n 1 <;> rw [hb] at hk
    · exact hk.elim
    obtain rfl := beqT hb
    obtain ⟨hrow, hk⟩ := hk
    cases hv.inv with
    | sl hr hbb he =>
      refine ⟨_, ?_, hk⟩
      rw [← row_cells hr.1 he hrow, rowB_length]
      exact hr
  · rename_i x ver n off len
    obtain ⟨g, vr, ob, hfo, hk⟩ := hk
    have hk2 := guardT_ok hk
    clear hk
    obtain ⟨hg, hk⟩ := hk2
    obtain ⟨hd, hev, hob⟩ := obj_at h hfo hg
    cases hb : Nat.beq ver vr <;> cases hb2 : Nat.beq n 1 <;> cases hb3 : Nat.beq off 0 <;> cases ob <;> simp only [hb, hb2, hb3] at hk <;> try exact hk.elim
    rename_i e m tot f
    obtain rfl := beqT hb
    obtain rfl := beqT hb2
    obtain rfl := beqT hb3
    cases hb4 : Nat.beq 1 m <;> rw [hb4] at hk
    · exact hk.elim
    obtain rfl := beqT hb4
    obtain ⟨⟨hle, hrow⟩, hk⟩ := hk
    obtain ⟨A0, n0, c0, rfl, hle0, rfl⟩ := hv.ow_inv hev
    obtain ⟨vs, hown, hel⟩ := hob
    have hrd := Reads.of_ownX hown
    have hn0 : n0 = tot := by
      obtain ⟨_, A1, c1, e1, _⟩ := hrd
      cases e1; rfl
    subst hn0
    have hsl := reads_slice (off := 0) (m := len) (by omega) hrd
    refine ⟨_, ?_, hk⟩
    have hcell := row_cells (C := ctxOf A w env) (len := len) (f := f) (vs := (vs.drop (0 * 1)).take (len * 1)) hsl.1 (fun i hi => by rw [window_window vs hi, Nat.zero_add]; exact hel i (by omega)) hrow
    rw [← hcell, rowB_length]
    exact hsl
  · rename_i x ver off len
    obtain ⟨g, vr, ob, hfo, hk⟩ := hk
    have hk2 := guardT_ok hk
    clear hk
    obtain ⟨hg, hk⟩ := hk2
    obtain ⟨hd, hev, hob⟩ := obj_at h hfo hg
    cases hb : Nat.beq ver vr <;> cases ob <;> simp only [hb] at hk <;> try exact hk.elim
    rename_i bt l
    obtain rfl := beqT hb
    cases hs : bsAt l off with
    | none => rw [hs] at hk; exact hk.elim
    | some q =>
      obtain ⟨m, bs⟩ := q
      rw [hs] at hk
      dsimp only at hk
      cases hb2 : Nat.beq len m <;> rw [hb2] at hk
      · exact hk.elim
      obtain rfl := beqT hb2
      obtain ⟨g1, c, rfl, hc1, hc2, rfl⟩ := hv.ob_inv hev
      obtain ⟨g2, cs, e2, hB, hR⟩ := hob
      cases e2
      obtain ⟨k1, k2, k3⟩ := bsAt_range hR hs
      have hrg := range_drop hB.range off len
      rw [Nat.zero_add, k2] at hrg
      refine ⟨bs, ⟨by simp, _, c, by rw [k1], by rw [k1]; exact hc1, hc2, fun hn => ⟨g1, off, rfl, fun j u hj => hrg j u hj⟩⟩, hk⟩
  · have := hv.lit_inv
    subst this
    exact ⟨[], Reads.nil w 1, hk⟩
  · exact hk.elim
end
end Go.Proofs.YtplkplegjoabgaaGreatDoor.Pv


namespace Go.Proofs.YtplkplegjoabgaaGreatDoor.Pv
open Go.RowKit
section
variable {P : Program}
theorem run_part {C : Ctx} {t : TypeId} {n off : Nat} {m : List PC} {pw : PW} {cs : Array Value} (hsz : szOf P t = some n) (hw : mkW P t m = some pw) (hr : RL C m ((cs.toList.drop off).take n)) (_ : off + n ≤ cs.size) (w : World) :
    ∃ val, (part t cs off).run P w = .ok val w ∧ RW C pw val := by
  obtain ⟨i, hi, hin⟩ := szOf_info hsz
  rcases mkW_ok hw hr with ⟨hrow, h1⟩ | ⟨hrow, u, hxs, _, h1⟩
  · obtain ⟨d, hd1, hd2⟩ := rowTy_und hrow
    have hag : (isAgg t).run P w = .ok true w := by
      unfold isAgg
      rw [Sem.run_bind, run_underlying hd1 w]
      cases d <;> simp_all
    have hex : cs.extract off (off + n) = ((cs.toList.drop off).take n).toArray := by
      apply Array.ext'
      simp [List.extract_eq_take_drop]
    exact ⟨_, by simp [part, hag, sizeOf, typeInfo, hi, hin, hex], h1⟩
  · have hcell : cs[off]? = some u := by
      have := congrArg (·[0]?) hxs
      simp only [List.getElem?_take, List.getElem?_drop, Nat.add_zero, List.getElem?_cons_zero] at this
      split at this
      · simpa using this
      · cases this
    exact ⟨u, by simp [part, rowTy_agg hrow, hcell], h1⟩
theorem run_items {e : TypeId} (hu : P.underlying e = some (.int .u8)) (d : Nat) (a b : List UInt8) (w : World) : ∀ is : List Nat, (∀ i ∈ is, i < a.length ∧ i < b.length) →
    (Op.eqItems (d + 1) e 1 (a.map u8w).toArray (b.map u8w).toArray is).run P w = .ok (is.all fun i => a.getD i 0 == b.getD i 0) w
  | [], _ => by simp [Op.eqItems]
  | i :: is, h => by
    obtain ⟨h1, h2⟩ := h i (by simp)
    have hag : (isAgg e).run P w = .ok false w := by
      unfold isAgg
      rw [Sem.run_bind, run_underlying hu w]
      rfl
    have p1 : (part e (a.map u8w).toArray (i * 1)).run P w = .ok (u8w (a.getD i 0)) w := by
      have := u8w_getD a i h1
      simp [part, hag, List.getElem?_eq_getElem h1]
    have p2 : (part e (b.map u8w).toArray (i * 1)).run P w = .ok (u8w (b.getD i 0)) w := by
      simp [part, hag, List.getElem?_eq_getElem h2]
    have p3 : (Op.equalIn (d + 1) e (u8w (a.getD i 0)) (u8w (b.getD i 0))).run P w = .ok (a.getD i 0 == b.getD i 0) w := by
      have := run_equalIn_int (P := P) w d e .u8 .u8 ((a.getD i 0).toNat : Int) ((b.getD i 0).toNat : Int) hu
      rw [show u8w (a.getD i 0) = .int .u8 ((a.getD i 0).toNat : Int) from rfl, show u8w (b.getD i 0) = .int .u8 ((b.getD i 0).toNat : Int) from rfl, this]
      congr 1
      rw [Bool.eq_iff_iff, beq_iff_eq, beq_iff_eq]
      constructor
      · intro h; exact UInt8.toNat_inj.1 (by omega)
      · intro h; rw [h]
    rw [Op.eqItems, Sem.run_bind, p1, Result.andThen_ok, Sem.run_bind, p2, Result.andThen_ok, Sem.run_bind, p3, Result.andThen_ok, List.all_cons]
    cases hb : (a.getD i 0 == b.getD i 0) with
    | false => simp
    | true => simpa using run_items hu d a b w is (fun j hj => h j (List.mem_cons_of_mem _ hj))
theorem all_bytes (a b : List UInt8) (n : Nat) (ha : a.length = n) (hb : b.length = n) : ((List.range n).all fun i => a.getD i 0 == b.getD i 0) = (a == b) := by
  rw [Bool.eq_iff_iff]
  simp only [List.all_eq_true, List.mem_range, beq_iff_eq]
  constructor
  · intro h
    apply List.ext_getElem (by omega)
    intro i h1 h2
    have := h i (by omega)
    simpa [List.getD_eq_getElem?_getD, List.getElem?_eq_getElem h1, List.getElem?_eq_getElem h2] using this
  · rintro rfl i _; rfl
theorem RW.lit_inv {C : Ctx} {u v : Value} {x : PW} (h : RW C x v) (hx : x.cells = [.lit u]) : v.cells.toList = [u] := by
  have := h.cells'
  rw [hx] at this
  generalize v.cells.toList = l at this
  cases this with
  | cons h1 h2 => cases h2; cases h1; rfl
theorem eqT_ok {C : Ctx} : ∀ (d : Nat) {t : TypeId} {l m : List PC} {x y : Value} {px py : PW} {r : Bool}, eqT P d t l m = some r → mkW P t l = some px → mkW P t m = some py → RW C px x → RW C py y → ∀ (k : Nat) (w : World), (Op.equalIn (d + (k + 1)) t x y).run P w = .ok r w
  | 0, t, l, m, x, y, px, py, r, h, _, _, _, _, _, _ => by cases h
  | d + 1, t, l, m, x, y, px, py, r, h, hx, hy, rx, ry, k, w => by
    have hlx : px.cells = l := by
      unfold mkW at hx
      split at hx
      · cases hx
      · cases hx; rfl
      · split at hx
        · split at hx
          · cases hx; rfl
          · cases hx
        · cases hx
    have hly : py.cells = m := by
      unfold mkW at hy
      split at hy
      · cases hy
      · cases hy; rfl
      · split at hy
        · split at hy
          · cases hy; rfl
          · cases hy
        · cases hy
    have one : ∀ {c : PC} {v : Value} {q : PW}, isRowTy P t = some false → mkW P t [c] = some q → RW C q v → R C c [v] := by
      intro c v q hi hw hr
      unfold mkW at hw
      rw [hi] at hw
      dsimp only at hw
      split at hw
      · cases hw; cases hr with | one h => exact h
      · cases hw
    rw [show d + 1 + (k + 1) = (d + (k + 1)) + 1 from by omega]
    unfold eqT at h
    cases hu : P.underlying t with
    | none => rw [hu] at h; cases h
    | some dd =>
      rw [hu] at h
      cases dd <;> try (cases h; done)
      ·
        dsimp only at h
        split at h
        · cases h
          have hi : isRowTy P t = some false := by unfold isRowTy; rw [hu]
          have e1 := one hi hx rx
          have e2 := one hi hy ry
          cases e1; cases e2
          exact run_equalIn_bool' w _ t _ _ hu
        · cases h
      ·
        dsimp only at h
        split at h
        · split at h
          · rename_i hk
            cases h
            subst hk
            have hi : isRowTy P t = some false := by unfold isRowTy; rw [hu]
            have e1 := one hi hx rx
            have e2 := one hi hy ry
            cases e1; cases e2
            exact run_equalIn_int w _ t _ _ _ _ hu
          · cases h
        · cases h
      ·
        dsimp only at h
        split at h
        · cases h
          have hi : isRowTy P t = some false := by unfold isRowTy; rw [hu]
          have e1 := one hi hx rx
          have e2 := one hi hy ry
          cases e1; cases e2
          exact run_equalIn_string w _ t _ _ hu
        · cases h
      ·
        rename_i n e
        dsimp only at h
        split at h
        · rename_i n1 a n2 b hue hse
          cases h1 : Nat.beq n n1 <;> cases h2 : Nat.beq n n2 <;> simp only [h1, h2] at h <;> try (cases h; done)
          cases h
          obtain rfl := beqT h1
          obtain rfl := beqT h2
          have hi : isRowTy P t = some true := by unfold isRowTy; rw [hu]
          unfold mkW at hx hy
          rw [hi] at hx hy
          cases hx; cases hy
          cases rx with
          | @agg _ xs hrx =>
            cases ry with
            | @agg _ ys hry =>
              obtain ⟨g1, g2⟩ := hrx.bs1
              obtain ⟨g3, g4⟩ := hry.bs1
              have exs : xs = (a.map u8w).toArray := by apply Array.ext'; simpa using g2
              have eys : ys = (b.map u8w).toArray := by apply Array.ext'; simpa using g4
              obtain ⟨ie, hie, hies⟩ := szOf_info hse
              have hce : P.cellsOf e = 1 := by unfold Program.cellsOf; rw [hie]; simpa using hies
              rw [run_equalIn_array (P := P) w (d + (k + 1)) xs ys hu hie, hce, exs, eys, show d + (k + 1) = (d + k) + 1 from by omega, run_items hue (d + k) a b w _ (fun i hm => by rw [List.mem_range] at hm; omega), all_bytes a b n g1 g3]
        · cases h
      ·
        rename_i fs
        dsimp only at h
        have hst : P.stoodInHeld t = false := by
          cases hst : P.stoodInHeld t with
          | false => rfl
          | true => rw [hst] at h; cases h
        rw [hst] at h
        dsimp only at h
        have hi : isRowTy P t = some true := by unfold isRowTy; rw [hu]
        unfold mkW at hx hy
        rw [hi] at hx hy
        cases hx; cases hy
        cases rx with
        | @agg _ xs hrx =>
          cases ry with
          | @agg _ ys hry =>
            have hfo : P.fieldsOf t = fs := by unfold Program.fieldsOf; rw [hu]
            rw [run_equalIn_struct w (d + (k + 1)) t xs ys (by rw [hfo]; exact hu) hst, hfo]
            clear hfo hu
            generalize fs.toList = fl at h
            induction fl generalizing r with
            | nil => cases h; rfl
            | cons f fl ih =>
              rw [List.foldr_cons] at h
              generalize hacc : List.foldr _ _ fl = acc at h ih
              cases acc <;> cases hnm : (f.name != "_") <;> cases hsz : szOf P f.type <;> simp only [hnm, hsz] at h <;> try (cases h; done)
              rename_i r0 n
              cases hs1 : subPC l f.offset n <;> cases hs2 : subPC m f.offset n <;> simp only [hs1, hs2] at h <;> try (cases h; done)
              rename_i x1 y1
              cases hm1 : mkW P f.type x1 <;> cases hm2 : mkW P f.type y1 <;> cases hq : eqT P d f.type x1 y1 <;> simp only [hm1, hm2, hq] at h <;> try (cases h; done)
              rename_i p1 p2 q
              cases h
              obtain ⟨k1, k2⟩ := hrx.sub hs1
              obtain ⟨k3, k4⟩ := hry.sub hs2
              obtain ⟨v1, e1, w1⟩ := run_part hsz hm1 k1 (by simpa using k2) w
              obtain ⟨v2, e2, w2⟩ := run_part hsz hm2 k3 (by simpa using k4) w
              have e3 := eqT_ok d hq hm1 hm2 w1 w2 k w
              have e4 := ih r0 rfl
              have hne : f.name ≠ "_" := by simpa using hnm
              rw [Op.eqFields, if_pos hne, Sem.run_bind, e1, Result.andThen_ok, Sem.run_bind, e2, Result.andThen_ok, Sem.run_bind, e3, Result.andThen_ok]
              cases q with
              | false => simp
              | true => simpa using e4
end
end Go.Proofs.YtplkplegjoabgaaGreatDoor.Pv


namespace Go.Proofs.YtplkplegjoabgaaGreatDoor.Pv
open Go.RowKit
section
variable {P : Program} {A : Amb} {s : St} {a : Act} {w : World} {env : Env} {o : Oper} {K : Act → World → Prop} {Q : Exit → Act → World → Prop} {F : Option Bool → PV → Wr → Prop}
theorem bytesRow_at (b : ByteArray) (cap j : Nat) (hj : j < b.size) : (bytesRow b cap)[j]? = some (u8w (b.data.toList.getD j 0)) := by
  have hsz : b.data.size = b.size := rfl
  unfold bytesRow
  rw [Array.getElem?_append_left (by simpa using by omega)]
  rw [Array.getElem?_map, Array.getElem?_eq_getElem (by omega), List.getD_eq_getElem?_getD, List.getElem?_eq_getElem (by simpa using by omega)]
  rfl
theorem convert_ok (h : GamE A s a w env) {own : Bool} {nm : Nat} {t t' : TypeId} {x : Operand} (ho : o.op = .convert t t' x) {v : PV} (hv : RV (ctxOf A w env) v (a.eval x)) (hk : (convM P own nm t t' v).ok none s F) (hf : Fin A s a o K F) : o.wp P a w K Q := by
  unfold convM at hk
  split at hk
  · rename_i e hs hd
    split at hk
    · rename_i b he
      cases own
      case true =>
        obtain ⟨hb, hF⟩ := hk
        have hb' : b.size ≤ 9223372036854775807 := hb
        have hx : a.eval x = .string b := hv.lit_inv
        have hrun := run_bytes_of_string (P := P) w t t' e b hs hd he
        have hsz : b.data.toList.length = b.size := by rw [Array.length_toList]; rfl
        have hge := grownCap_ge w b.size 0 e
        have hE : Ext w (w.drew.alloc (.cells (bytesRow b (grownCap w b.size 0 e)) e ((bytesRow b (grownCap w b.size 0 e)).size, (bytesRow b (grownCap w b.size 0 e)).size + 1))) := ((Ext.refl w).drew.alloc _)
        have hrow : (bytesRow b (grownCap w b.size 0 e)).size = grownCap w b.size 0 e := by
          have hds : b.data.size = b.size := rfl
          simp only [bytesRow, Array.size_append, Array.size_map, Array.size_replicate]
          omega
        obtain ⟨env', g1, g2⟩ := h.new_tail nm 1 b.size (grownCap w b.size 0 e) (f := byF b.data.toList) (cs := bytesRow b (grownCap w b.size 0 e)) (xs := b.data.toList.map u8w)
          (by rw [List.length_map, hsz, Nat.mul_one]) hge (grownCap_le_maxLen w b.size 0 e (by unfold maxLen; omega)) (by rw [hrow, Nat.mul_one])
          (by
            apply List.ext_getElem?
            intro j
            rw [List.getElem?_take, Nat.mul_one]
            by_cases hj : j < b.size
            · rw [if_pos hj, Array.getElem?_toList, bytesRow_at b _ j hj, u8w_getD _ j (by omega)]
            · rw [if_neg hj, List.getElem?_eq_none (by rw [List.length_map, hsz]; omega)])
          (fun i hi => byF_cells _ _ i (by omega)) hE (heap_alloc_new w.drew _) (Nat.le_refl _)
        exact wp_of_run (v := .slice (some ⟨w.heap.size, 0, none⟩) b.size (grownCap w b.size 0 e)) (by simp [execOp, ho, hx, hrun]) (hf _ _ _ _ _ hF g1 g2)
      obtain ⟨hb, hF⟩ := hk
      have hb' : b.size ≤ 9223372036854775807 := hb
      have hx : a.eval x = .string b := hv.lit_inv
      have hrun := run_bytes_of_string (P := P) w t t' e b hs hd he
      have hsz : b.data.toList.length = b.size := by rw [Array.length_toList]; rfl
      have hE : Ext w (w.drew.alloc (.cells (bytesRow b (grownCap w b.size 0 e)) e ((bytesRow b (grownCap w b.size 0 e)).size, (bytesRow b (grownCap w b.size 0 e)).size + 1))) := ((Ext.refl w).drew.alloc _)
      refine wp_of_run (v := .slice (some ⟨w.heap.size, 0, none⟩) b.size (grownCap w b.size 0 e)) (by simp [execOp, ho, hx, hrun]) (hf _ _ _ _ env hF (h.ext hE) (.w (.one (.sl (vs := b.data.toList.map u8w) ⟨by rw [List.length_map, hsz, Nat.mul_one], _, _, rfl, grownCap_ge w b.size 0 e, grownCap_le_maxLen w b.size 0 e (by unfold maxLen; omega), fun hn => ⟨w.heap.size, 0, rfl, fun j u hj => ?_⟩⟩ (fun g hg _ => ?_) (fun i hi => byF_cells _ _ i (by omega))))))
      · have hjl : j < b.size := by
          have := (List.getElem?_eq_some_iff.1 hj).1
          simpa [hsz] using this
        rw [Nat.zero_add]
        have hc := cell_of_row (w.drew.alloc (.cells (bytesRow b (grownCap w b.size 0 e)) e ((bytesRow b (grownCap w b.size 0 e)).size, (bytesRow b (grownCap w b.size 0 e)).size + 1))) w.heap.size j _ _ _ (heap_alloc_new w.drew _)
        refine hc.trans ?_
        rw [bytesRow_at b _ j hjl, ← hj, u8w_getD _ j (by omega)]
      · cases hg
        refine ⟨⟨.inr h.chg.size, fun x ver hd he hbl => ?_⟩, by simp [ctxOf]⟩
        exact absurd (h.live x ver hd _ he hbl).1 (Nat.lt_irrefl _)
    · exact hk.elim
  · rename_i e hs hd
    split at hk
    · rename_i he
      obtain ⟨l, hr, hF⟩ := bytesM_ok h hv hk
      obtain ⟨h1, A1, c, e1, h2, h3, h4⟩ := hr
      have hrun : (convert t t' (a.eval x)).run P w = .ok (.string ⟨l.toArray⟩) w := by
        rw [e1]
        cases A1 with
        | none =>
          have hl0 : l = [] := by
            cases l with
            | nil => rfl
            | cons b l =>
              obtain ⟨b', o', e2, _⟩ := h4 (by simp)
              cases e2
          subst hl0
          rw [run_convert_bytes_string w t t' e _ _ c hs he hd]
          simp [Conv.bytesToString]
          rfl
        | some ad =>
          refine run_convert_bytes_back w t t' e ad c l hs he hd (fun j hj => ?_)
          obtain ⟨b', o', e2, hcell⟩ := h4 (by omega)
          cases e2
          rw [add_lit]
          exact hcell j _ (by rw [List.getElem?_map, List.getElem?_eq_getElem hj]; rfl)
      exact wp_of_run (v := .string ⟨l.toArray⟩) (by simp [execOp, ho, hrun]) (hf.same h hF (.w (.one (.lit rfl))))
    · exact hk.elim
  · split at hk
    · rename_i u hl
      obtain ⟨r, h1, h2, hF⟩ := retV_ok hk
      rw [isLit_ok hl] at hv
      refine wp_of_run (v := r) (w' := w) ?_ (hf.same h hF (.w (.one (.lit h2))))
      have hx : a.eval x = u := RV.lit_inv (show RV _ _ _ from hv)
      simp [execOp, ho, hx, pureRun_ok (w := w) h1]
    · exact hk.elim
theorem madeCells_at (z : Array Value) (m i n : Nat) (hz : z.size = n) (h : (i + 1) * n ≤ m) : ((madeCells z m).toList.drop (i * n)).take n = z.toList := by
  rw [Nat.add_mul, Nat.one_mul] at h
  apply List.ext_getElem?
  intro q
  rw [List.getElem?_take, List.getElem?_drop]
  by_cases hq : q < n
  · rw [if_pos hq]
    have e1 : (madeCells z m).toList[i * n + q]? = some z[(i * n + q) % z.size]! := by
      unfold madeCells
      rw [Array.getElem?_toList, Array.getElem?_map, Array.getElem?_range]
      simp
      omega
    rw [e1, hz, Nat.mul_comm, Nat.mul_add_mod, Nat.mod_eq_of_lt hq, Array.getElem?_toList, Array.getElem?_eq_getElem (by omega), getElem!_pos z q (by omega)]
  · rw [if_neg hq, List.getElem?_eq_none (by simp; omega)]
theorem make_ok (h : GamE A s a w env) {nm : Nat} {t : TypeId} {x y : Operand} (ho : o.op = .makeSlice t x y) {lv cv : PV} (hl : RV (ctxOf A w env) lv (a.eval x)) (hc : RV (ctxOf A w env) cv (a.eval y)) (hk : (makeM P nm t lv cv).ok none s F) (hf : Fin A s a o K F) : o.wp P a w K Q := by
  unfold makeM at hk
  split at hk
  · rename_i e n by' k1 l k2 c hsl hlx hly
    split at hk
    · rename_i z0 hz0
      obtain ⟨⟨h0, h1, h2⟩, hF⟩ := hk
      obtain ⟨hu, ⟨i, z, hi, hz, hsz, hby, hzs⟩, hpos, hbp⟩ := slTy_ok hsl
      obtain ⟨i', z', hi', hzz', hr⟩ := zeroPC_ok (C := ctxOf A w env) hz0
      rw [hi] at hi'
      cases hi'
      rw [hz] at hzz'
      cases hzz'
      rw [isLit_ok hlx] at hl
      rw [isLit_ok hly] at hc
      have hx : a.eval x = .int k1 l := RV.lit_inv (show RV _ _ _ from hl)
      have hy : a.eval y = .int k2 c := RV.lit_inv (show RV _ _ _ from hc)
      have hcb : c ≤ (by' : Int) * c := by
        have : (1 : Int) * c ≤ (by' : Int) * c := Int.mul_le_mul_of_nonneg_right (by omega) (by omega)
        omega
      have hrun := run_make (P := P) w t e i z hu hi hz k1 k2 l c h0 h1 (by rw [hby]; omega) (by omega)
      have hlc : (l.toNat) * n ≤ c.toNat * n := Nat.mul_le_mul_right n (by omega)
      have hel : ∀ j, j < l.toNat → RL (ctxOf A w env) ((fun _ => z0) j) ((((madeCells z.cells (c.toNat * i.size)).toList.take (l.toNat * n)).drop (j * n)).take n) := by
        intro j hj
        have hj1 : (j + 1) * n ≤ l.toNat * n := Nat.mul_le_mul_right n hj
        have e1 : (((madeCells z.cells (c.toNat * i.size)).toList.take (l.toNat * n)).drop (j * n)).take n = ((madeCells z.cells (c.toNat * i.size)).toList.drop (j * n)).take n := by
          rw [Nat.add_mul, Nat.one_mul] at hj1
          rw [List.drop_take, List.take_take, Nat.min_eq_left (by omega)]
        rw [e1, madeCells_at z.cells _ j n (by rw [hzs]) (by rw [hsz]; omega)]
        exact hr
      obtain ⟨env', g1, g2⟩ := h.new_row nm e n l.toNat c.toNat (f := fun _ => z0) (cs := madeCells z.cells (c.toNat * i.size)) (xs := (madeCells z.cells (c.toNat * i.size)).toList.take (l.toNat * n))
        (by rw [List.length_take, Array.length_toList, size_madeCells, hsz]; omega) (by omega) (by unfold maxLen; omega) (by rw [size_madeCells, hsz]) rfl hel (w' := w.alloc (.cells (madeCells z.cells (c.toNat * i.size)) e)) ((Ext.refl w).alloc _) (heap_alloc_new w _)
      exact wp_of_run (v := .slice (some ⟨w.heap.size, 0, none⟩) l.toNat c.toNat) (by simp [execOp, ho, hx, hy, hrun]) (hf _ _ _ _ _ hF g1 g2)
    · exact hk.elim
  · exact hk.elim
theorem cpF_elems {C : Ctx} {n tot k : Nat} {f f' : Nat → List PC} {vs news : List Value} (hk : k ≤ tot) (hl : vs.length = tot * n) (hn : news.length = k * n) (h1 : ∀ i, i < tot → RL C (f i) ((vs.drop (i * n)).take n)) (h2 : ∀ i, i < k → RL C (f' i) ((news.drop (i * n)).take n)) :
    ∀ i, i < tot → RL C (cpF k f f' i) (((over vs 0 news).drop (i * n)).take n) := by
  intro i hi
  have hm : k * n ≤ tot * n := Nat.mul_le_mul_right n hk
  unfold cpF
  by_cases h : i < k
  · rw [if_pos h]
    have hm2 : (i + 1) * n ≤ k * n := Nat.mul_le_mul_right n h
    rw [Nat.add_mul, Nat.one_mul] at hm2
    have e1 : ((over vs 0 news).drop (i * n)).take n = (news.drop (i * n)).take n := by
      unfold over
      rw [List.take_zero, List.nil_append, List.drop_append_of_le_length (by omega), List.take_append_of_le_length (by simp; omega)]
    rw [e1]
    exact h2 i h
  · rw [if_neg h, over_window_out (by omega) (.inl (by
      have : k * n ≤ i * n := Nat.mul_le_mul_right n (by omega)
      omega))]
    exact h1 i hi
theorem copy_ok (h : GamE A s a w env) {t : Nat} {x y : Operand} (ho : o.op = .call { callee := .builtin .copy, args := #[x, y], argTypes := #[t, t] }) {p v : PV} (hp : RV (ctxOf A w env) p (a.eval x)) (hv : RV (ctxOf A w env) v (a.eval y)) (hk : (copyM P t p v).ok none s F) (hf : Fin A s a o K F) : o.wp P a w K Q := by
  unfold copyM at hk
  split at hk
  · rename_i e n by' x1 ver n' off len hsl
    obtain ⟨hu, ⟨ie, z, hie, hz, hsz, hby, hzs⟩, hpos, hbp⟩ := slTy_ok hsl
    obtain ⟨g, vr, ob, hfo, hk⟩ := hk
    have hk2 := guardT_ok hk
    clear hk
    obtain ⟨hg, hk⟩ := hk2
    obtain ⟨hd, hev, hob⟩ := obj_at h hfo hg
    cases hb : Nat.beq ver vr <;> cases hb2 : Nat.beq n n' <;> cases hb3 : Nat.beq off 0 <;> cases ob <;> simp only [hb, hb2, hb3] at hk <;> try exact hk.elim
    rename_i e' m tot f
    obtain rfl := beqT hb
    obtain rfl := beqT hb2
    obtain rfl := beqT hb3
    cases hb4 : Nat.beq n m <;> cases hb5 : (Nat.beq e e' && Nat.blt e mkT) <;> simp only [hb4, hb5] at hk <;> try exact hk.elim
    rw [Bool.and_eq_true] at hb5
    obtain ⟨hb5, hb6⟩ := hb5
    obtain rfl := beqT hb4
    obtain rfl := beqT hb5
    obtain ⟨htot, hk⟩ := hk
    have htot' : len = tot := htot
    have hk2 := src_ok h hv hk
    clear hk
    obtain ⟨k, f', news, hrd, hel', hk⟩ := hk2
    have hF := hk.2
    obtain ⟨A0, n0, c0, rfl, hle0, hxv⟩ := hp.ow_inv hev
    obtain ⟨vs, hown, hel⟩ := hob
    have hown := hown.plain hb6
    obtain ⟨g1, A1, c1, e1, g2, g3, g4⟩ := hrd
    have hkm : min k tot * n ≤ k * n := Nat.mul_le_mul_right n (by omega)
    have hkt : min k tot * n ≤ tot * n := Nat.mul_le_mul_right n (by omega)
    rcases hown.2 with ⟨e0, ht0⟩ | ⟨g', cap, cur, e0, hbs, hgg, hnc, hcm, hcs, htake⟩
    ·
      cases e0
      have hl0 : len = 0 := by omega
      have ht : tot = 0 := by omega
      subst hl0
      have hxv' : a.eval x = .slice none 0 0 := by rw [hxv]; rfl
      have hrun : (Builtin.copy_ #[t, t] o.type #[a.eval x, a.eval y]).run P w = .ok (goInt 0) w := by
        rw [hxv', e1]
        cases A1 with
        | none => simp [Builtin.copy_, run_underlying hu, Builtin.lenOf, Builtin.firstCells, sizeOf, typeInfo, hie]
        | some ad => simp [Builtin.copy_, run_underlying hu, Builtin.lenOf, Builtin.firstCells, sizeOf, typeInfo, hie, loadCells, loadCellsFrom]
      have hm0 : min k tot = 0 := by omega
      obtain ⟨hg1, hle⟩ := h.upd x1 none ver (.slice none 0 0) (.arr e n tot (cpF (min k tot) f f')) (Chg.refl _ _) (fun v hd' e0 => by rw [hev] at e0; cases e0; exact .inr ⟨rfl, rfl⟩) (fun b hb => by cases hb) (fun hle _ => ⟨vs, by rw [ht] at hown ⊢; exact ownX_of hown, fun i hi => by omega⟩)
      refine wp_of_run (v := .int .i64 0) (w' := w) ?_ (hf _ _ _ _ _ hF hg1 (.w (.one ?_)))
      · simp only [execOp, ho, resolve, invoke, builtin, Sem.run_bind, Sem.run_pure, Result.andThen_ok, List.map_toArray, List.map_cons, List.map_nil, hrun]
        rfl
      · rw [hm0]; exact .lit rfl
    · cases e0
      have hxv' : a.eval x = .slice (some ⟨g', 0, none⟩) tot c0 := by
        rw [hxv]
        simp [add_lit, htot']
      have hnl : (news.take (min k tot * n)).length = min k tot * n := by rw [List.length_take]; omega
      have hB : Blk w g' e cur := hgg
      have hcap : tot * n ≤ c0 * n := Nat.mul_le_mul_right n hnc
      have hload : (Builtin.firstCells n (min k tot) (a.eval y)).run P w = .ok (news.take (min k tot * n)).toArray w := by
        rw [e1]
        cases A1 with
        | none =>
          have hk0 : k = 0 := by
            rcases Nat.eq_zero_or_pos k with h0 | h0
            · exact h0
            · obtain ⟨b, o1, e2, _⟩ := g4 h0
              cases e2
          subst hk0
          simp [Builtin.firstCells]
        | some ad =>
          have hcells : ∀ j u, (news.take (min k tot * n))[j]? = some u → w.cell? (ad.add j) = some u := by
            intro j u hj
            rw [List.getElem?_take] at hj
            split at hj
            · rename_i hlt
              obtain ⟨b, o1, e2, hc⟩ := g4 (by
                rcases Nat.eq_zero_or_pos k with h0 | h0
                · subst h0; simp at hlt
                · exact h0)
              cases e2
              rw [add_lit]
              exact hc j u hj
            · cases hj
          have := run_loadCells_list (P := P) w ad (news.take (min k tot * n)) hcells
          rw [hnl] at this
          exact this
      have hones := ones_of_elems g1 hel'
      have hstore : (storeCells ⟨g', 0, none⟩ (news.take (min k tot * n))).run P w = .ok () (w.setCells g' 0 (news.take (min k tot * n))) := by
        have hth := there_of_blk hB 0 (tot * n) (by omega)
        have := run_storeCells_cells (P := P) g' 0 (news.take (min k tot * n)) 0 w (fun j hj => by have := (hth (0 + j) (by omega)).1; simpa using this) (fun j hj => by simpa using hB.frozen _) (fun v hv => hones v (List.mem_of_mem_take hv))
        simpa using this
      have hrun : (Builtin.copy_ #[t, t] o.type #[a.eval x, a.eval y]).run P w = .ok (goInt (min k tot : Nat)) (w.setCells g' 0 (news.take (min k tot * n))) := by
        have hlen : (Builtin.lenOf (a.eval y)).run P w = .ok k w := by rw [e1]; rfl
        rw [hxv']
        simp only [Builtin.copy_]
        simp [run_underlying hu, hlen, sizeOf, typeInfo, hie, hsz, show Nat.min k tot = min k tot from rfl, hload, hstore]
      have hc := (setCells_chg g' (news.take (min k tot * n)) 0 w).1
      have hsz2 := (setCells_chg g' (news.take (min k tot * n)) 0 w).2
      have hnew : (w.setCells g' 0 (news.take (min k tot * n))).ownsRow 0 e n (.slice (some ⟨g', 0, none⟩) tot c0) tot (over vs 0 (news.take (min k tot * n))) := by
        refine ⟨by rw [over_length (by rw [hnl, hown.1]; omega)]; exact hown.1, .inr ⟨g', c0, (over cur.toList 0 (news.take (min k tot * n))).toArray, rfl, hbs, blk_over hB _ _ (by omega), hnc, hcm, ?_, ?_⟩⟩
        · rw [List.size_toArray, over_length (by rw [hnl, Array.length_toList]; omega), Array.length_toList, hcs]
        · rw [← htake]
          exact over_takeT (by omega) (by rw [Array.length_toList]; omega)
      obtain ⟨hgam, hle⟩ := h.upd x1 none ver (.slice (some ⟨g', 0, none⟩) tot c0) (.arr e n tot (cpF (min k tot) f f')) (hc.mono fun b _ e => ⟨ver, _, hev, by rw [e]; rfl⟩) (fun v hd e => by rw [hev] at e; cases e; exact .inr ⟨rfl, rfl⟩) (fun b' hb' => by cases hb'; exact ⟨by rw [hsz2]; exact hB.lt, .inr ⟨ver, _, hev, rfl⟩⟩)
        (fun hle _ => ⟨_, ownX_of hnew, cpF_elems (Nat.min_le_right _ _) hown.1 hnl (fun i hi => (hel i hi).le hle) (fun i hi => by
          have hi1 : (i + 1) * n ≤ min k tot * n := Nat.mul_le_mul_right n hi
          rw [Nat.add_mul, Nat.one_mul] at hi1
          rw [List.drop_take, List.take_take, Nat.min_eq_left (show n ≤ min k tot * n - i * n by omega)]
          exact (hel' i (by omega)).le hle)⟩)
      refine wp_of_run (v := .int .i64 (min k tot : Nat)) (w' := w.setCells g' 0 (news.take (min k tot * n))) ?_ (hf _ _ _ _ _ hF hgam (.w (.one (.lit rfl))))
      simp only [execOp, ho, resolve, invoke, builtin, Sem.run_bind, Sem.run_pure, Result.andThen_ok, List.map_toArray, List.map_cons, List.map_nil, hrun]
      rfl
  · exact hk.elim
end
end Go.Proofs.YtplkplegjoabgaaGreatDoor.Pv
