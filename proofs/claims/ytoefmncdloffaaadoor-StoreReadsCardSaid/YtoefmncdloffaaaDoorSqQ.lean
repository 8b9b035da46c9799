/-
  Several texts in one file: each has its own heading below.
-/
import Derived.Test.YtoefmncdloffaaaDoorSqP
import Derived.Test.YtoefmncdloffaaaDoorSqJ


namespace Go.Proofs.YtoefmncdloffaaaDoor
open Go.ChangeShapes Go.WideShapes Go.ChangeAt Go.RowKit Go.Joins Go.Deep
def splitBy : List Nat → List Value → List (List Value)
  | [], _ => []
  | n :: ns, cs => cs.take n :: splitBy ns (cs.drop n)
def offsOf : Nat → List Nat → List (Nat × Nat)
  | _, [] => []
  | o, n :: ns => (o, n) :: offsOf (o + n) ns
theorem splitBy_flatten : ∀ (ns : List Nat) (cs : List Value), cs.length = ns.sum → (splitBy ns cs).flatten = cs
  | [], cs, h => by simpa [splitBy] using (List.eq_nil_of_length_eq_zero (by simpa using h)).symm
  | n :: ns, cs, h => by
    rw [List.sum_cons] at h
    rw [splitBy, List.flatten_cons, splitBy_flatten ns (cs.drop n) (by rw [List.length_drop]; omega), List.take_append_drop]
theorem splitBy_get : ∀ (ns : List Nat) (cs : List Value) (i o n : Nat) (o0 : Nat), (offsOf o0 ns)[i]? = some (o0 + o, n) → (splitBy ns cs).getD i [] = (cs.drop o).take n
  | [], cs, i, o, n, o0, h => by simp [offsOf] at h
  | m :: ns, cs, 0, o, n, o0, h => by
    simp only [offsOf, List.getElem?_cons_zero, Option.some.injEq, Prod.mk.injEq] at h
    obtain ⟨h1, h2⟩ := h
    obtain rfl : o = 0 := by omega
    subst h2
    rfl
  | m :: ns, cs, i + 1, o, n, o0, h => by
    simp only [offsOf, List.getElem?_cons_succ] at h
    have ho : m ≤ o := by
      have : ∀ (ns : List Nat) (a i o n : Nat), (offsOf a ns)[i]? = some (o, n) → a ≤ o := by
        intro ns
        induction ns with
        | nil => intro a i o n h; simp [offsOf] at h
        | cons k ns ih =>
          intro a i o n h
          cases i with
          | zero => simp only [offsOf, List.getElem?_cons_zero, Option.some.injEq, Prod.mk.injEq] at h; omega
          | succ i => simp only [offsOf, List.getElem?_cons_succ] at h; have := ih _ _ _ _ h; omega
      have := this _ _ _ _ _ h
      omega
    have := splitBy_get ns (cs.drop m) i (o - m) n (o0 + m) (by rw [show o0 + m + (o - m) = o0 + o from by omega]; exact h)
    show (splitBy ns (cs.drop m)).getD i [] = _
    rw [this, List.drop_drop, show m + (o - m) = o from by omega]
theorem trod_split {H : Type} {enc : TypeId × Value → H} {P : Program} {w : World} {base : Nat} {spare : Nat → Bool} {held : Bool} {t : TypeId} {fs : Array Field} {ns : List Nat} {fuel : Nat} {cs : List Value} {x : DataW H × List MemPlace} (ht : P.underlying t = some (.struct fs))
    (hfs : fs.toList.map (fun f => (f.offset, P.cellsOf f.type)) = offsOf 0 ns) (hc : P.cellsOf t = ns.sum) (h : DataW.trod enc P w base spare held fuel t cs = some x) :
    (splitBy ns cs).flatten = cs ∧ ∀ i f, fs[i]? = some f → ∃ m y, DataW.trod enc P w base spare held m f.type ((splitBy ns cs).getD i []) = some y := by
  obtain ⟨xs, n', _, _, hlen, hxl, hf⟩ := DataW.trod_struct ht h
  refine ⟨splitBy_flatten ns cs (by rw [hlen, hc]), fun i f hi => ?_⟩
  have h1 := hf i f hi
  have hil : i < xs.length := by
    rw [hxl]
    exact (Array.getElem?_eq_some_iff.1 hi).1
  have h2 : (offsOf 0 ns)[i]? = some (0 + f.offset, P.cellsOf f.type) := by
    rw [← hfs, List.getElem?_map, Array.getElem?_toList, hi, Nat.zero_add]
    rfl
  rw [splitBy_get ns cs i f.offset _ 0 h2]
  exact ⟨n', xs[i], by rw [h1, List.getElem?_eq_getElem hil]⟩
end Go.Proofs.YtoefmncdloffaaaDoor


namespace Go.Proofs.YtoefmncdloffaaaDoor.Pv
open Go.ChangeShapes Go.WideShapes Go.ChangeAt Go.RowKit Go.Joins Go.Deep
def strF (l : List ByteArray) : Nat → List PC := fun i => [.lit (.string (l.getD i { data := #[] }))]
def strOfPC : List PC → ByteArray
  | [.lit (.string c)] => c
  | _ => { data := #[] }
def isStr : List PC → Bool
  | [.lit (.string _)] => true
  | _ => false
def rowStr (n : Nat) (f : Nat → List PC) : List ByteArray := (List.range n).map fun i => strOfPC (f i)
def IsStrRow (n : Nat) (f : Nat → List PC) : Prop := ∀ i, i < n → isStr (f i) = true
@[simp] theorem rowStr_length (n : Nat) (f : Nat → List PC) : (rowStr n f).length = n := by simp [rowStr]
@[simp] theorem isStrRow_strF (n : Nat) (l : List ByteArray) : IsStrRow n (strF l) := fun _ _ => rfl
@[simp] theorem rowStr_strF (l : List ByteArray) : rowStr l.length (strF l) = l := by
  apply List.ext_getElem (by simp)
  intro i h1 h2
  simp only [rowStr, List.getElem_map, List.getElem_range, strF, strOfPC]
  rw [List.getD_eq_getElem?_getD, List.getElem?_eq_getElem h2]
  rfl
theorem flat_win {α : Type} (g : α → List Value) (n : Nat) : ∀ (l : List α), (∀ a ∈ l, (g a).length = n) → ∀ (i : Nat) (hi : i < l.length), ((l.flatMap g).drop (i * n)).take n = g l[i]
  | [], _, i, hi => by simp at hi
  | a :: l, h, 0, hi => by
    rw [Nat.zero_mul, List.drop_zero, List.flatMap_cons, List.take_append_of_le_length (by rw [h a List.mem_cons_self]; omega), List.take_of_length_le (by rw [h a List.mem_cons_self]; omega)]
    rfl
  | a :: l, h, i + 1, hi => by
    have hi' : i < l.length := by simpa using hi
    rw [List.flatMap_cons, show (i + 1) * n = (g a).length + i * n by rw [h a List.mem_cons_self, Nat.succ_mul, Nat.add_comm], ← List.drop_drop, List.drop_left, flat_win g n l (fun b hb => h b (List.mem_cons_of_mem _ hb)) i hi']
    rfl
def argX (w : World) : Ctx := { w := w, ok := fun _ => True, env := fun _ => none }
theorem rsl_of {α : Type} {w : World} {v : Value} {n : Nat} {l : List α} {g : α → List Value} {f : Nat → List PC} (hn : 0 < n) (hg : ∀ a ∈ l, (g a).length = n) (hr : Reads w n v l.length (l.flatMap g)) (hc : ∀ (C : Ctx) (i : Nat) (hi : i < l.length), RL C (f i) (g l[i])) : R (argX w) (.sl n l.length f) [v] :=
  .sl hr (fun b hb hlt => ⟨trivial, hr.own_lt hn hlt b hb⟩) (fun i hi => by rw [flat_win g n l hg i hi]; exact hc _ i hi)
section
variable {H : Type} {enc : TypeId × Value → H} {w : World} {base : Nat} {spare : Nat → Bool} {held : Bool}
end
section
variable {H : Type} {enc : TypeId × Value → H} {w : World} {base : Nat} {spare : Nat → Bool} {held : Bool}
theorem sl_len {C : Ctx} {n len : Nat} {f : Nat → List PC} {xs : List Value} (h : R C (.sl n len f) xs) : len < 9223372036854775808 := by
  cases h with
  | sl hr _ _ => have := hr.len_le; unfold maxLen at this; omega
end
section
variable {H : Type} {enc : TypeId × Value → H} {v : Value} {d : DataW H} {p : List MemPlace} {W : World} {base : Nat}
theorem FunOk.law {P : Program} {I : World → Prop} {f : Nat} {new : Bool} {args : List PV} (h : FunOk P I f new args (pvB true)) {vs : List Value} (hI : I W) (hv : Vals (argX W) args vs) : Calls P f vs.toArray W fun e W' => e = .returned (.bool true) ∧ Ext W W' := by
  refine (h W (fun _ => True) vs hI hv).mono ?_
  rintro e w' ⟨val, rfl, hE, hr⟩
  exact ⟨congrArg Ending.returned hr.lit_inv, hE⟩
end
end Go.Proofs.YtoefmncdloffaaaDoor.Pv


namespace Go.Proofs.YtoefmncdloffaaaDoor
open Go.RowKit
open Pv (zeroFl chanceS chS chB)
def nrmI (r : Int) : Int := (IntKind.i64.wrap (r.tmod 4 + 4)).tmod 4
theorem nrmI_range (r : Int) : 0 ≤ nrmI r ∧ nrmI r ≤ 3 := by
  have h1 := Int.tmod_lt_of_pos r (show (0 : Int) < 4 by decide)
  have h2 := Int.lt_tmod_of_pos r (show (0 : Int) < 4 by decide)
  unfold nrmI
  have e : IntKind.i64.wrap (r.tmod 4 + 4) = r.tmod 4 + 4 := by rw [IntKind.wrap_i64]; omega
  rw [e, Int.tmod_eq_emod_of_nonneg (by omega)]
  omega
def nrm (u : Upd) : Upd := ⟨nrmI u.rec_, u.content, u.cut, u.bytes⟩
structure Upto (n : Int) (f : Fl) : Prop where
  sz : Sz f
  s : ∀ rec : Int, 0 ≤ rec → rec ≤ 3 → (curF f rec).1.1 ≤ n
theorem upto_zero : Upto 0 zeroFl := ⟨zeroFl_sz, fun rec h0 h3 => by rw [zeroFl_cur h0 h3]; exact Int.le_refl _⟩
theorem Upto.fine {n : Int} {f : Fl} (h : Upto n f) (hn : n ≤ 1000000) {u : Upd} (h0 : 0 ≤ u.rec_) (h3 : u.rec_ ≤ 3) (hc : u.content.size ≤ 2000) : Fine f u := ⟨h.sz, h0, h3, hc, by have := h.s u.rec_ h0 h3; omega⟩
theorem Upto.step {n : Int} {f : Fl} (h : Upto n f) {u : Upd} (hf : Fine f u) : Upto (n + 1) (putF f u).1 := by
  have p := put_ok hf
  refine ⟨p.sz, fun rec h0 h3 => ?_⟩
  by_cases hr : rec = u.rec_
  · subst hr
    have hs := h.s _ h0 h3
    cases hw : (putF f u).2.2.1 with
    | true => rw [p.whole hf hw]; show _ + 1 ≤ _; omega
    | false =>
      rcases p.torn hf hw with e | e | ⟨s, e, _⟩
      · rw [e]; omega
      · rw [e]; show _ + 1 ≤ _; omega
      · rw [e]; show _ + 1 ≤ _; omega
  · rw [p.others h0 h3 hr]
    have := h.s rec h0 h3
    omega
theorem getF_seq (f : Fl) (rec : Int) : (getF f rec).seq = (curF f rec).1.1 := by
  unfold getF loadO
  split
  · rename_i h; exact h.symm
  · rfl
theorem getF_new {f : Fl} {rec : Int} {s : Int} {c : List UInt8} (h : (curF f rec).1 = (s, c)) (h0 : s ≠ 0) : getF f rec = ⟨strOf c, s, 0⟩ := by
  unfold getF loadO
  rw [h, if_neg h0]
theorem getF_size (f : Fl) (rec : Int) : (getF f rec).content.size ≤ 2000 := by
  unfold getF loadO
  split
  · exact (by decide : (0 : Nat) ≤ 2000)
  · rw [← (cur_facts f rec).1, strOf_size]
    exact decS_len _ _
theorem getF_range (f : Fl) (rec : Int) : 0 ≤ (getF f rec).seq ∧ (getF f rec).seq ≤ 1099511627776 := by
  rw [getF_seq]
  exact cur_range f rec
section
variable {f : Fl} {u : Upd}
theorem atomic_whole (hf : Fine f u) (hw : (putF f u).2.2.1 = true) : getF (putF f u).1 u.rec_ = ⟨u.content, (getF f u.rec_).seq + 1, 0⟩ ∧ (putF f u).2.1 = ⟨u.content, (getF f u.rec_).seq + 1, 0⟩ := by
  have p := put_ok hf
  have hr := cur_range f u.rec_
  refine ⟨?_, by rw [(p.done hw).1, getF_seq]⟩
  rw [getF_new (p.whole hf hw) (by omega), strOf_toList, getF_seq]
theorem chB_no {w b : List UInt8} {i : Nat} (h : w[i]? = some 0 ∨ (i < b.length ∧ w[i]? = b[i]?)) : chB w b i = false := by
  unfold chB
  rcases h with h | ⟨h1, h2⟩
  · rw [List.getD_eq_getElem?_getD, h]
    rfl
  · rw [decide_eq_false (by omega), List.getD_eq_getElem?_getD, List.getD_eq_getElem?_getD, h2]
    simp
theorem atomic_torn (hf : Fine f u) (hw : (putF f u).2.2.1 = false) : getF (putF f u).1 u.rec_ = getF f u.rec_ ∨ getF (putF f u).1 u.rec_ = ⟨u.content, (getF f u.rec_).seq + 1, 0⟩ ∨ chanceS u ((getF f u.rec_).seq + 1) (getF (putF f u).1 u.rec_) = true := by
  have p := put_ok hf
  have hr := cur_range f u.rec_
  rcases p.torn hf hw with e | e | ⟨s, e, hl, hc⟩
  · left; unfold getF; rw [e]
  · right; left
    rw [getF_new e (by omega), strOf_toList, getF_seq]
  · right; right
    rw [getF_new e (by omega), getF_seq]
    unfold Pv.chanceS
    dsimp only
    rw [decide_eq_true rfl, Bool.true_and, strOf_list]
    unfold Pv.chS
    refine List.all_eq_true.2 fun i hi => ?_
    have h5 := chB_no (hc i (List.mem_range.1 hi))
    unfold newB at h5
    rw [h5]
    rfl
theorem indep (hf : Fine f u) {rec : Int} (h0 : 0 ≤ rec) (h3 : rec ≤ 3) (hne : rec ≠ u.rec_) : getF (putF f u).1 rec = getF f rec := by
  unfold getF
  rw [(put_ok hf).others h0 h3 hne]
def fullL (f : Fl) (u : Upd) : List Acc := rdL u.rec_ ++ writeL (newF f u) (newB f u)
theorem full_length (hf : Fine f u) : (fullL f u).length = 17 + nsec (newB f u) := by
  unfold fullL
  rw [List.length_append, rdL_length, writeL_length _ _ hf.len.1]
  omega
theorem acc_take (hf : Fine f u) : ∃ m : Nat, (putF f u).2.2.2 = (fullL f u).take m ∧ 1 ≤ m ∧ m ≤ 17 + nsec (newB f u) ∧ ((putF f u).2.2.1 = true → m = 17 + nsec (newB f u)) := by
  have hl := hf.len
  have hs := hf.nsec
  have hfl := full_length hf
  by_cases hw : u.cut < 0 ∨ 17 + (nsec (newB f u) : Int) ≤ u.cut
  · refine ⟨17 + nsec (newB f u), ?_, by omega, by omega, fun _ => rfl⟩
    rw [put_whole hf hw, List.take_of_length_le (by omega)]
    rfl
  · by_cases hr : u.cut < 16
    · refine ⟨u.cut.toNat + 1, ?_, by omega, by omega, fun h => ?_⟩
      · rw [put_read hf (by omega) hr]
        unfold fullL
        rw [List.take_append_of_le_length (by rw [rdL_length]; omega)]
      · rw [put_read hf (by omega) hr] at h; cases h
    · obtain ⟨j, hj⟩ : ∃ j : Nat, u.cut = 16 + (j : Int) := ⟨(u.cut - 16).toNat, by omega⟩
      have hjn : j ≤ nsec (newB f u) := by omega
      have hlen := writeL_length (newF f u) (newB f u) hl.1
      obtain ⟨a, ha⟩ : ∃ a, (writeL (newF f u) (newB f u))[j]? = some a := ⟨_, List.getElem?_eq_getElem (by omega)⟩
      refine ⟨17 + j, ?_, by omega, by omega, fun h => ?_⟩
      · rw [put_write hf hj hjn a ha]
        unfold fullL
        rw [List.take_append, rdL_length, List.take_of_length_le (l := rdL u.rec_) (by rw [rdL_length]; omega), show 17 + j - 16 = j + 1 from by omega]
      · rw [put_write hf hj hjn a ha] at h; cases h
theorem full_read (f : Fl) (u : Upd) {k : Nat} (hk : k < 16) : (fullL f u)[k]? = some ⟨3, 0, firstS u.rec_ ((k / 8 : Nat) : Int) + ((k % 8 : Nat) : Int), noBytes⟩ := by
  have hr : ∀ (s : Int) (k : Nat), k < 8 → (readsL s 8)[k]? = some ⟨3, 0, s + (k : Int), noBytes⟩ := by
    intro s k hk
    match k, hk with
    | 0, _ => rfl
    | 1, _ => rfl
    | 2, _ => rfl
    | 3, _ => rfl
    | 4, _ => rfl
    | 5, _ => rfl
    | 6, _ => rfl
    | 7, _ => rfl
  unfold fullL rdL
  rw [List.append_assoc]
  by_cases h : k < 8
  · rw [List.getElem?_append_left (by exact h), hr _ _ h, show k / 8 = 0 from by omega, show k % 8 = k from by omega]
    rfl
  · rw [List.getElem?_append_right (show 8 ≤ k by omega), show (readsL (firstS u.rec_ 0) 8).length = 8 from rfl, List.getElem?_append_left (show k - 8 < 8 by omega), hr _ _ (by omega), show k / 8 = 1 from by omega, show k % 8 = k - 8 from by omega]
    rfl
theorem full_write (hf : Fine f u) {k : Nat} (h1 : 16 ≤ k) (h2 : k < 17 + nsec (newB f u)) : ∃ (c : Int) (b : List UInt8), (fullL f u)[k]? = some ⟨4, 0, c, strOf b⟩ ∧ b.length = 256 ∧ newF f u ≤ c ∧ c < newF f u + 8 ∧ (k = 16 → c = newF f u ∧ b = zeroSec) ∧ (k = 16 + nsec (newB f u) → c = newF f u) := by
  have hl := hf.len
  have hs := hf.nsec
  unfold fullL
  rw [List.getElem?_append_right (by rw [rdL_length]; exact h1), rdL_length]
  by_cases ha : k = 16
  · subst ha
    exact ⟨newF f u, zeroSec, rfl, zero_length, by omega, by omega, fun _ => ⟨rfl, rfl⟩, fun _ => rfl⟩
  · by_cases hb : k = 16 + nsec (newB f u)
    · refine ⟨newF f u, secS (newB f u) 0, ?_, secS_length _ _, by omega, by omega, fun h => absurd h ha, fun _ => rfl⟩
      rw [show k - 16 = nsec (newB f u) from by omega]
      exact writeL_last _ _ hl.1
    · exact ⟨newF f u + ((k - 16 : Nat) : Int), secS (newB f u) (k - 16), writeL_at (by omega) (by omega), secS_length _ _, by omega, by omega, fun h => absurd h ha, fun h => absurd h hb⟩
theorem newF_two (f : Fl) (u : Upd) : newF f u = firstS u.rec_ 0 ∨ newF f u = firstS u.rec_ 1 := by
  have hk : (curF f u.rec_).2 = 0 ∨ (curF f u.rec_).2 = 1 := curS_k _ _
  unfold newF
  rcases hk with hk | hk <;> rw [hk]
  · exact .inr rfl
  · exact .inl rfl
def clr (g : Fl) (s : Int) : Nat → Fl
  | 0 => g
  | k + 1 => fwrite (clr g s k) (s + (k : Int)) (strOf zeroSec) (-1)
theorem clr_sz {g : Fl} (h : Sz g) (s : Int) : ∀ k, Sz (clr g s k)
  | 0 => h
  | k + 1 => fwrite_sz (clr_sz h s k) _ _ _
theorem clr_sec {g : Fl} (h : Sz g) {s : Int} (h0 : 0 ≤ s) (h1 : s + 8 ≤ 128) : ∀ k : Nat, k ≤ 8 → ∀ t : Int, sec (clr g s k) t = if s ≤ t ∧ t < s + (k : Int) then zeroSec else sec g t
  | 0, _, t => by rw [if_neg (by omega)]; rfl
  | k + 1, hk, t => by
    have e : torn (-1) zeroSec (sec (clr g s k) (s + (k : Int))) = zeroSec := if_pos (.inl (by decide))
    rw [clr, sec_fwrite (clr_sz h s k) (by omega) (by omega) zero_length, e, clr_sec h h0 h1 k (by omega) t]
    by_cases ht : t = s + (k : Int)
    · rw [if_pos ht, if_pos (by omega)]
    · rw [if_neg ht]
      by_cases h5 : s ≤ t ∧ t < s + (k : Int)
      · rw [if_pos h5, if_pos (by omega)]
      · rw [if_neg h5, if_neg (by omega)]
theorem clr_get (hf : Fine f u) : getF (clr (putF f u).1 (newF f u) 8) u.rec_ = getF f u.rec_ := by
  have p := put_ok hf
  have hfi := hf.first
  have hk : (curF f u.rec_).2 = 0 ∨ (curF f u.rec_).2 = 1 := curS_k _ _
  have hsec := clr_sec p.sz hfi.1 (by omega) 8 (Nat.le_refl _)
  have e : (curF (clr (putF f u).1 (newF f u) 8) u.rec_).1 = (curF f u.rec_).1 := by
    refine cur_bad ?_ ?_
    · rw [← p.same hf]
      unfold Da
      rw [areaB_congr (f := clr (putF f u).1 (newF f u) 8) (g := (putF f u).1) (s := firstS u.rec_ ((curF f u.rec_).2 : Int)) (fun t h4 h5 => ?_)]
      rw [firstS_ok hf.r0 hf.r3 (by omega) (by omega)] at h4 h5
      rw [hsec, if_neg (by omega)]
    · change decS _ (areaB _ (newF f u)) = _
      refine zero_dec (clr_sz p.sz _ 8) hfi.1 (by omega) ?_ _
      rw [hsec, if_pos (by omega)]
      exact zero_at (by omega)
  unfold getF
  rw [e]
end
theorem far_get {f : Fl} (h : Sz f) {rec at_ : Int} (h0 : 0 ≤ rec) (h3 : rec ≤ 3) (ha : 0 ≤ at_) (ha2 : at_ < 128) (hout : at_ < firstS rec 0 ∨ firstS rec 1 + 8 ≤ at_) {b : List UInt8} (hb : b.length = 256) : getF (fwrite f at_ (strOf b) (-1)) rec = getF f rec := by
  rw [firstS_ok h0 h3 (by omega) (by omega), firstS_ok h0 h3 (by omega) (by omega)] at hout
  have e : curF (fwrite f at_ (strOf b) (-1)) rec = curF f rec := cur_same fun k h1 h2 => by
    unfold Da
    rw [areaB_congr (f := fwrite f at_ (strOf b) (-1)) (g := f) (s := firstS rec k) (fun t h4 h5 => ?_)]
    rw [firstS_ok h0 h3 h1 h2] at h4 h5
    rw [sec_fwrite h ha ha2 hb, if_neg (by omega)]
  unfold getF
  rw [e]
end Go.Proofs.YtoefmncdloffaaaDoor
