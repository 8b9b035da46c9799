/-
  Several texts in one file: each has its own heading below.
-/
import Derived.Test.YtplkplegjoabgaaGreatDoorHzM
import Derived.Test.YtplkplegjoabgaaGreatDoorHzI
import Derived.Test.YtplkplegjoabgaaGreatDoorHzE
import Derived.Deep.Cut
import Derived.Test.YtplkplegjoabgaaGreatDoorHzK
import Derived.Test.YtplkplegjoabgaaGreatDoorHzD


namespace Go.Proofs.YtplkplegjoabgaaGreatDoor.Pv
open Go.RowKit
def u8F (l : List Int) : Nat → List PC := fun i => [.lit (.int .u8 (l.getD i 0))]
def u8Of : List PC → Int
  | [.lit (.int _ n)] => n
  | _ => 0
def isU8c : List PC → Bool
  | [.lit (.int .u8 _)] => true
  | _ => false
theorem isU8c_ok {l : List PC} (h : isU8c l = true) : l = [.lit (.int .u8 (u8Of l))] := by
  unfold isU8c at h
  split at h
  · rfl
  · cases h
def bkPC (l : List Int) : List PC := [.sl 1 l.length (u8F l)]
def bankF (b : List (List Int)) : Nat → List PC := fun i => bkPC (b.getD i [])
def bkOf : List PC → List Int
  | [.sl 1 k g] => (List.range k).map fun j => u8Of (g j)
  | _ => []
def IsBank : List PC → Prop
  | [.sl 1 k g] => ∀ j, j < k → isU8c (g j) = true
  | _ => False
def rowBk (n : Nat) (f : Nat → List PC) : List (List Int) := (List.range n).map fun i => bkOf (f i)
def IsBkRow (n : Nat) (f : Nat → List PC) : Prop := ∀ i, i < n → IsBank (f i)
@[simp] theorem rowBk_length (n : Nat) (f : Nat → List PC) : (rowBk n f).length = n := by simp [rowBk]
theorem bkOf_bkPC (l : List Int) : bkOf (bkPC l) = l := by
  apply List.ext_getElem (by simp [bkOf, bkPC])
  intro i h1 h2
  simp only [bkOf, bkPC, List.getElem_map, List.getElem_range, u8F, u8Of]
  rw [List.getD_eq_getElem?_getD, List.getElem?_eq_getElem h2]
  rfl
@[simp] theorem isBkRow_bankF (n : Nat) (b : List (List Int)) : IsBkRow n (bankF b) := fun _ _ => fun _ _ => rfl
@[simp] theorem rowBk_bankF (b : List (List Int)) : rowBk b.length (bankF b) = b := by
  apply List.ext_getElem (by simp)
  intro i h1 h2
  simp only [rowBk, List.getElem_map, List.getElem_range, bankF]
  rw [bkOf_bkPC, List.getD_eq_getElem?_getD, List.getElem?_eq_getElem h2]
  rfl
theorem bank_reads {C : Ctx} {k : Nat} {g : Nat → List PC} {bv : Value} (h : R C (.sl 1 k g) [bv]) (hg : ∀ j, j < k → isU8c (g j) = true) : Reads C.w 1 bv ((List.range k).map fun j => u8Of (g j)).length (((List.range k).map fun j => u8Of (g j)).map (Value.int .u8)) := by
  cases h with
  | sl hr hb he =>
    rename_i vs
    have : vs = ((List.range k).map fun j => u8Of (g j)).flatMap fun z => [Value.int .u8 z] := by
      refine flat_of (fun z => [Value.int .u8 z]) 1 _ vs (fun a _ => rfl) (by simpa using hr.1) (fun i hi => ?_)
      have hi' : i < k := by simpa using hi
      have h1 := he i hi'
      rw [isU8c_ok (hg i hi')] at h1
      rw [List.getElem_map, List.getElem_range]
      generalize (vs.drop (i * 1)).take 1 = xs at h1 ⊢
      cases h1 with
      | cons k1 h1 => cases h1; cases k1; rfl
    rw [List.length_map, List.length_range]
    have e : (((List.range k).map fun j => u8Of (g j)).map (Value.int .u8)) = vs := by
      rw [this]
      generalize (List.range k).map (fun j => u8Of (g j)) = l
      induction l with
      | nil => rfl
      | cons a l ih => rw [List.map_cons, List.flatMap_cons, ih]; rfl
    rw [e]
    exact hr
theorem fuses_in {C : Ctx} {n : Nat} {f : Nat → List PC} {fv : Value} (h : R C (.sl 1 n f) [fv]) (hf : IsBkRow n f) : FusesIn C.w fv (rowBk n f) := by
  cases h with
  | sl hr hb he =>
    rename_i vs
    refine ⟨vs, by rw [rowBk_length]; exact hr, ⟨by rw [rowBk_length]; simpa using hr.1, fun k bv l h1 h2 => ?_⟩⟩
    have hk : k < n := by
      have := (List.getElem?_eq_some_iff.1 h2).1
      rwa [rowBk_length] at this
    have h3 := he k hk
    have h4 := hf k hk
    have e1 : (vs.drop (k * 1)).take 1 = [bv] := by
      rw [Nat.mul_one]
      have hv : k < vs.length := (List.getElem?_eq_some_iff.1 h1).1
      rw [List.drop_eq_getElem_cons hv]
      have : vs[k] = bv := by rw [List.getElem?_eq_getElem hv] at h1; exact Option.some.inj h1
      rw [this]
      rfl
    rw [e1] at h3
    have e2 : l = bkOf (f k) := by
      unfold rowBk at h2
      rw [List.getElem?_map, List.getElem?_range hk] at h2
      exact (Option.some.inj h2).symm
    rw [e2]
    clear e2 h2 h1 e1
    generalize f k = c at h3 h4 ⊢
    unfold IsBank at h4
    split at h4
    · rename_i kk g
      have h5 : R C.cold (.sl 1 kk g) [bv] := by
        have := h3.single
        exact this
      exact bank_reads (C := C.cold) h5 h4
    · exact h4.elim
theorem r_bank {C : Ctx} {bv : Value} {l : List Int} (h : Reads C.w 1 bv l.length (l.map (Value.int .u8))) (hb : ∀ g, bv.ownBlock = some g → 0 < l.length → C.ok g ∧ g < C.w.heap.size) : R C (.sl 1 l.length (u8F l)) [bv] :=
  .sl h hb (fun i hi => by
    have e : ((l.map (Value.int .u8)).drop (i * 1)).take 1 = [.int .u8 (l.getD i 0)] := by
      rw [Nat.mul_one, List.drop_eq_getElem_cons (by simpa using hi), List.getElem_map, List.getD_eq_getElem?_getD, List.getElem?_eq_getElem hi]
      rfl
    rw [e]
    exact .cons (xs := [_]) (.lit rfl) .nil)
theorem fuses_new {w' : World} {B : Nat} {fv : Value} {banks : List (List Int)} (h : FusesNew B w' fv banks) {ok : Nat → Prop} (hok : ∀ b, B ≤ b → ok b) : R { w := w', ok := ok, env := fun _ => none } (.sl 1 banks.length (bankF banks)) [fv] := by
  obtain ⟨B', bvs, h1, h2, h3⟩ := h
  refine .sl (Reads.of_own h2) (fun g hg _ => ⟨hok g (Nat.le_trans h1 (h2.lt g hg).1), (h2.lt g hg).2⟩) (fun i hi => ?_)
  have hl : i < bvs.length := by rw [h3.len]; exact hi
  have e : (bvs.drop (i * 1)).take 1 = [bvs[i]] := by
    rw [Nat.mul_one, List.drop_eq_getElem_cons hl]; rfl
  rw [e]
  have h4 := h3.each i bvs[i] banks[i] (List.getElem?_eq_getElem hl) (List.getElem?_eq_getElem hi)
  have e2 : bankF banks i = bkPC banks[i] := by unfold bankF; rw [List.getD_eq_getElem?_getD, List.getElem?_eq_getElem hi]; rfl
  rw [e2]
  refine .cons (xs := [_]) (r_bank (Reads.of_own h4) (fun g hg _ => ⟨hok g (Nat.le_trans h1 (h4.lt g hg).1), (h4.lt g hg).2⟩)) .nil
theorem bankF_row {n : Nat} {f : Nat → List PC} {C : Ctx} {fv : Value} (hf : IsBkRow n f) (h : R C (.sl 1 n f) [fv]) : R C (.sl 1 (rowBk n f).length (bankF (rowBk n f))) [fv] := by
  rw [rowBk_length]
  cases h with
  | sl hr hb he =>
    refine .sl hr hb (fun i hi => ?_)
    have h3 := he i hi
    have h4 := hf i hi
    have e2 : bankF (rowBk n f) i = bkPC (bkOf (f i)) := by
      unfold bankF rowBk
      rw [getD_map_range n i (fun i => bkOf (f i)) hi]
    rw [e2]
    generalize f i = c at h3 h4 ⊢
    unfold IsBank at h4
    split at h4
    · rename_i kk g
      generalize (List.take 1 _) = xs at h3 ⊢
      cases h3 with
      | cons k1 k2 =>
        cases k2
        refine .cons ?_ .nil
        show R _ (.sl 1 ((List.range kk).map fun j => u8Of (g j)).length (u8F ((List.range kk).map fun j => u8Of (g j)))) _
        rw [List.length_map, List.length_range]
        have hx := k1
        cases hx
        refine k1.sl_ext (fun j hj => ?_)
        unfold u8F
        rw [getD_map_range kk j (fun j => u8Of (g j)) hj]
        exact isU8c_ok (h4 j hj)
    · exact h4.elim
def hwPC (b : List (List Int)) (r : List UInt8) : List PC := [.sl 1 b.length (bankF b), .lit (.slice none 0 0), .bs 16 r]
def doR (b : List (List Int)) (k bank cell : Int) (cut noise : Bool) : List (List Int) × Int :=
  if k = 1 then (b, if cut then 0 else fuseBit ((b.getD bank.toNat []).getD cell.toNat 0) noise)
  else (b.set bank.toNat ((b.getD bank.toNat []).set cell.toNat (pulsed ((b.getD bank.toNat []).getD cell.toNat 0) cut)), 0)
def doPV (x : List (List Int) × Int) (r : List UInt8) : PV := .tup [.agg (hwPC x.1 r), .agg [.lit (.int .i64 x.2), .lit (.string { data := #[] })], .one (.lit (.int .i64 0))]
def doG : List PV → Option (Prop × PV)
  | [.w (.agg [.sl 1 n f, .lit (.slice none 0 0), .bs 16 r]), .w (.agg [.lit (.int .i64 k), .lit (.int .i64 bank), .lit (.int .i64 cell), .lit (.string s)]), .w (.agg [.lit (.bool cut), .lit (.int .i64 _), .lit (.bool noise)])] =>
    some (IsBkRow n f ∧ (k = 1 ∨ k = 2) ∧ (0 ≤ bank ∧ bank < n ∧ 0 ≤ cell ∧ cell < ((rowBk n f).getD bank.toNat []).length) ∧ s = noBytes ∧ n ≤ 1000 ∧ ∀ l ∈ rowBk n f, l.length ≤ 100000, doPV (doR (rowBk n f) k bank cell cut noise) r)
  | _ => none
theorem hw_split {C : Ctx} {n : Nat} {f : Nat → List PC} {r : List UInt8} {x : Value} (h : RV C (.w (.agg [.sl 1 n f, .lit (.slice none 0 0), .bs 16 r])) x) :
    ∃ fv, x = .agg ([fv, .slice none 0 0] ++ r.map u8w).toArray ∧ R C (.sl 1 n f) [fv] ∧ r.length = 16 := by
  cases h with
  | w h => cases h with
    | @agg _ cs h =>
      obtain ⟨cs⟩ := cs
      dsimp only at h
      cases h with
      | @cons _ _ _ xs _ k1 h => cases h with
        | cons k2 h =>
          obtain ⟨k3, k4⟩ := h.bs1
          subst k4
          cases k2
          have hw := k1.width
          match xs, hw, k1 with
          | [fv], _, k1 => exact ⟨fv, rfl, k1, k3⟩
theorem hw_rl {C : Ctx} {b : List (List Int)} {r : List UInt8} {fv : Value} (h : R C (.sl 1 b.length (bankF b)) [fv]) (hr : r.length = 16) : RL C (hwPC b r) ([fv, .slice none 0 0] ++ r.map u8w) := by
  have := RL.cons (C := C) (R.bs (n := 16) hr) RL.nil
  rw [List.append_nil] at this
  exact .cons (xs := [_]) h (.cons (xs := [_]) (.lit rfl) this)
theorem rv_do {C : Ctx} {l1 l2 : List PC} {c1 c2 : Array Value} {b : Int} (h1 : RL C l1 c1.toList) (h2 : RL C l2 c2.toList) : RV C (.tup [.agg l1, .agg l2, .one (.lit (.int .i64 b))]) (.tuple #[.agg c1, .agg c2, .int .i64 b]) :=
  .tup rfl (fun i x hx => by
    match i, hx with
    | 0, hx => cases hx; exact ⟨_, rfl, .agg h1⟩
    | 1, hx => cases hx; exact ⟨_, rfl, .agg h2⟩
    | 2, hx => cases hx; exact ⟨_, rfl, .one (.lit rfl)⟩
    | i + 3, hx => cases hx)
theorem lit4 {C : Ctx} {a b c : Int} {s : ByteArray} {x : Value} (h : RV C (.w (.agg [.lit (.int .i64 a), .lit (.int .i64 b), .lit (.int .i64 c), .lit (.string s)])) x) : x = .agg #[.int .i64 a, .int .i64 b, .int .i64 c, .string s] := by
  cases h with
  | w h => cases h with
    | @agg _ cs h =>
      obtain ⟨cs⟩ := cs
      dsimp only at h
      cases h with
      | cons k1 h => cases h with
        | cons k2 h => cases h with
          | cons k3 h => cases h with
            | cons k4 h => cases h; cases k1; cases k2; cases k3; cases k4; rfl
theorem lit3 {C : Ctx} {a c : Bool} {b : Int} {x : Value} (h : RV C (.w (.agg [.lit (.bool a), .lit (.int .i64 b), .lit (.bool c)])) x) : x = .agg #[.bool a, .int .i64 b, .bool c] := by
  cases h with
  | w h => cases h with
    | @agg _ cs h =>
      obtain ⟨cs⟩ := cs
      dsimp only at h
      cases h with
      | cons k1 h => cases h with
        | cons k2 h => cases h with
          | cons k3 h => cases h; cases k1; cases k2; cases k3; rfl
theorem u8w_ones (r : List UInt8) : (r.map u8w).all (·.oneCell') = true := by
  rw [List.all_map, List.all_eq_true]
  intro x _
  rfl
set_option maxRecDepth 100000 in
theorem do_spec : SpecOk Tryz.prog ShaMem 40 (funSpec false doG) := by
  refine funSpec_ok (call_enters Tryz.func40 (by kernel_rfl) rfl) (fun xs p r hg hp w ok0 vs hI hv => ?_)
  unfold doG at hg
  split at hg
  · rename_i n f rt k bank cell s cut fb noise
    cases hg
    obtain ⟨hbk, hk, ⟨hb0, hb1, hc0, hc1⟩, rfl, hn, hl⟩ := hp
    match vs, hv with
    | [v1, v2, v3], ⟨k1, k2, k3, _⟩ =>
      obtain ⟨fv, rfl, hf, hr16⟩ := hw_split k1
      obtain rfl := lit4 k2
      obtain rfl := lit3 k3
      have hF := fuses_in hf hbk
      have hcan := bankF_row hbk hf
      have hlen : (rowBk n f).length = n := rowBk_length n f
      generalize rowBk n f = B at *
      obtain ⟨nb, rfl⟩ : ∃ j : Nat, bank = (j : Int) := ⟨bank.toNat, by omega⟩
      obtain ⟨nc, rfl⟩ : ∃ j : Nat, cell = (j : Int) := ⟨cell.toNat, by omega⟩
      rw [Int.toNat_natCast] at hc1
      have hb2 : nb < B.length := by omega
      have hgb : B.getD nb [] = B[nb] := by rw [List.getD_eq_getElem?_getD, List.getElem?_eq_getElem hb2]; rfl
      rw [hgb] at hc1
      have hc2 : nc < B[nb].length := by omega
      have hgc : B[nb].getD nc 0 = B[nb][nc] := by rw [List.getD_eq_getElem?_getD, List.getElem?_eq_getElem hc2]; rfl
      have hsz : (([fv, .slice none 0 0] ++ rt.map u8w).toArray : Array Value).size = 18 := by simp [hr16]
      have hfv : fv.oneCell' = true := by
        cases hf with
        | sl hr _ _ => obtain ⟨_, A, c, rfl, _⟩ := hr; rfl
      have hall : (([fv, .slice none 0 0] ++ rt.map u8w).toArray : Array Value).all (·.oneCell') = true := by
        rw [← Array.all_toList]
        show ([fv, .slice none 0 0] ++ rt.map u8w).all (·.oneCell') = true
        rw [List.all_append, u8w_ones, Bool.and_true, List.all_cons, hfv]
        rfl
      rcases hk with rfl | rfl
      · refine (dev_read _ fv hsz hall rfl B nb nc cut noise fb w hF hb2 hc2).mono ?_
        rintro e w' ⟨rfl, hE⟩
        refine ⟨_, rfl, hE, ?_⟩
        have hd : doR B 1 (nb : Int) (nc : Int) cut noise = (B, if cut = true then 0 else fuseBit B[nb][nc] noise) := by
          unfold doR
          rw [if_pos rfl, Int.toNat_natCast, Int.toNat_natCast, hgb, hgc]
        rw [hd]
        refine rv_do ?_ (.cons (xs := [_]) (.lit rfl) (.cons (xs := [_]) (.lit rfl) .nil))
        refine hw_rl ?_ hr16
        refine (hcan.le (C' := { w := w', ok := fun b => (false = false ∧ ok0 b) ∨ w.heap.size ≤ b, env := fun _ => none }) ⟨hE.size', fun b hb hok => ⟨.inl ⟨rfl, hok⟩, hE.block b hb (fun h => h)⟩, fun _ _ _ h => by cases h⟩)
      · refine (dev_pulse _ fv hsz hall rfl B nb nc cut noise fb w hF hb2 hc2 (by omega) hl).mono ?_
        rintro e w' ⟨fv', rfl, hN, hE⟩
        refine ⟨_, rfl, hE, ?_⟩
        have hd : doR B 2 (nb : Int) (nc : Int) cut noise = (B.set nb (B[nb].set nc (pulsed B[nb][nc] cut)), 0) := by
          unfold doR
          rw [if_neg (by decide), Int.toNat_natCast, Int.toNat_natCast, hgb, hgc]
        rw [hd]
        refine rv_do ?_ (.cons (xs := [_]) (.lit rfl) (.cons (xs := [_]) (.lit rfl) .nil))
        have := hw_rl (b := B.set nb (B[nb].set nc (pulsed B[nb][nc] cut))) (r := rt) (fuses_new (ok := fun b => (false = false ∧ ok0 b) ∨ w.heap.size ≤ b) hN (fun b hb => .inr hb)) hr16
        exact this
  · cases hg
theorem fault_bits (b : UInt8) : (((b.toNat : Int).tmod 2 == 1) = ((b.toNat : Int) % 2 == 1)) ∧ (((IntKind.u8.wrap ((b.toNat : Int).tdiv 2)).tmod 2 == 1) = ((b.toNat : Int) / 2 % 2 == 1)) := by
  have h : ∀ n : _root_.Fin 256, (((n.val : Int).tmod 2 == 1) = ((n.val : Int) % 2 == 1)) ∧ (((IntKind.u8.wrap ((n.val : Int).tdiv 2)).tmod 2 == 1) = ((n.val : Int) / 2 % 2 == 1)) := by decide +kernel
  exact h ⟨b.toNat, b.toNat_lt⟩
theorem byF_row {len : Nat} {f : Nat → List PC} (h : IsRow len f) : ∀ i, i < len → f i = byF (rowB len f) i := fun i hi => by
  have h1 := h i hi
  unfold byF rowB
  rw [getD_map_range len i (fun i => byteAt (f i)) hi]
  exact isByte_ok h1
def fauPC (f : Bool × Bool) : List PC := [.lit (.bool f.1), .lit (.int .i64 0), .lit (.bool f.2)]
def intB (F : List UInt8) : List Int := F.map fun b => (b.toNat : Int)
set_option maxRecDepth 100000 in
theorem fault_fun (F : List UInt8) (i : Nat) (_ : i ≤ 1000000) : FunOk Tryz.prog ShaMem 31 true [pv1 (.sl 1 F.length (byF F)), pvI i] (.w (.agg (fauPC (faultAt (intB F) i)))) := by
  have M := noM (I := ShaMem)
  refine funOk_of Tryz.func31 rfl rfl sha_ext (fun A hS hn hI => ?_)
  refine tri_reg M hI hn (outs := ?_) (s' := ?_) ?_ ?_ ?_ ?_
  rotate_left 2
  · rfl
  · kernel_rfl
  · simp
  refine tri_seq ?_
  refine tri_reg M hI hn (outs := ?_) (s' := ?_) ?_ ?_ ?_ ?_
  rotate_left 2
  · rfl
  · kernel_rfl
  · simp
  refine tri_cond (b := ?_) ?_ (fun hc => ?_) (fun hc => ?_)
  rotate_left 1
  · rfl
  · have hc2 : ¬ i < F.length := by have := of_decide_eq_true hc; omega
    have hE : faultAt (intB F) i = (false, false) := by unfold faultAt intB; rw [List.getElem?_eq_none (by simp; omega)]
    refine tri_reg M hI hn (outs := ?_) (s' := ?_) ?_ ?_ ?_ ?_
    rotate_left 2
    · rfl
    · kernel_rfl
    · simp
    refine tri_ret (fun a w hg => ⟨.inr rfl, _, ?_, hg⟩)
    refine retTo_cold (out := ?_) ?_ ?_ ?_ ?_ ?_
    rotate_left 1
    · rfl
    · simp
    · rfl
    · rfl
    rw [hE]
    rfl
  · have hc2 : i < F.length := by have := of_decide_eq_false hc; omega
    refine tri_skip ?_
    change Tri _ _ _ _ _
    refine tri_reg M hI hn (outs := ?_) (s' := ?_) ?_ ?_ ?_ ?_
    rotate_left 2
    · rfl
    · kernel_rfl
    · simp
      exact hc2
    refine tri_ret (fun a w hg => ⟨.inr rfl, _, ?_, hg⟩)
    refine retTo_cold (out := ?_) ?_ ?_ ?_ ?_ ?_
    rotate_left 1
    · rfl
    · simp
    · rfl
    · rfl
    have hE : faultAt (intB F) i = (((F.getD i 0).toNat : Int) % 2 == 1, ((F.getD i 0).toNat : Int) / 2 % 2 == 1) := by
      unfold faultAt intB
      rw [List.getElem?_map, List.getElem?_eq_getElem hc2, List.getD_eq_getElem?_getD, List.getElem?_eq_getElem hc2]
      rfl
    rw [hE, ← (fault_bits (F.getD i 0)).1, ← (fault_bits (F.getD i 0)).2]
    rfl
def fauG : List PV → Option (Prop × PV)
  | [.w (.one (.sl 1 n f)), .w (.one (.lit (.int .i64 i)))] => some (IsRow n f ∧ 0 ≤ i ∧ i ≤ 1000000, .w (.agg (fauPC (faultAt (intB (rowB n f)) i.toNat))))
  | [.w (.one (.lit (.slice none 0 0))), .w (.one (.lit (.int .i64 i)))] => some (0 ≤ i ∧ i ≤ 1000000, .w (.agg (fauPC (faultAt [] i.toNat))))
  | _ => none
theorem fault_spec : SpecOk Tryz.prog ShaMem 31 (funSpec true fauG) := by
  refine funSpec_ok (call_enters Tryz.func31 (by kernel_rfl) rfl) (fun xs p r hg hp w ok0 vs hI hv => ?_)
  unfold fauG at hg
  split at hg
  · rename_i n f i
    cases hg
    obtain ⟨k, rfl⟩ : ∃ k : Nat, i = (k : Int) := ⟨i.toNat, by omega⟩
    rw [Int.toNat_natCast]
    have h := fault_fun (rowB n f) k (by omega)
    have hl : (rowB n f).length = n := by simp [rowB]
    rw [hl] at h
    match vs, hv with
    | [v1, v2], ⟨k1, k2, _⟩ => exact h w ok0 [v1, v2] hI ⟨.w (.one (k1.inv.sl_ext (fun j hj => byF_row hp.1 j hj))), k2, trivial⟩
  · rename_i i
    cases hg
    obtain ⟨k, rfl⟩ : ∃ k : Nat, i = (k : Int) := ⟨i.toNat, by omega⟩
    rw [Int.toNat_natCast]
    match vs, hv with
    | [v1, v2], ⟨k1, k2, _⟩ =>
      obtain rfl := k1.lit_inv
      exact fault_fun [] k (by omega) w ok0 [_, v2] hI ⟨.w (.one (.sl (Reads.nil _ _) (fun g hg => by cases hg) (fun i hi => absurd hi (Nat.not_lt_zero i)))), k2, trivial⟩
  · cases hg
end Go.Proofs.YtplkplegjoabgaaGreatDoor.Pv


namespace Go.Proofs.YtplkplegjoabgaaGreatDoor.Pv
open Go.ChangeShapes Go.WideShapes Go.ChangeAt Go.RowKit Go.Joins Go.Deep
section
variable {H : Type} {enc : TypeId × Value → H} {w : World} {base : Nat} {spare : Nat → Bool} {held : Bool}
end
section
variable {H : Type} {enc : TypeId × Value → H} {v : Value} {d : DataW H} {p : List MemPlace} {W : World} {base : Nat}
end
end Go.Proofs.YtplkplegjoabgaaGreatDoor.Pv


namespace Go.Proofs.YtplkplegjoabgaaGreatDoor.Pv
open Go.ChangeShapes Go.WideShapes Go.ChangeAt Go.RowKit Go.Joins Go.Deep
section
variable {H : Type} {enc : TypeId × Value → H} {w : World} {base : Nat} {spare : Nat → Bool} {held : Bool}
theorem trod_u8s {fuel : Nat} {cs : List Value} {x : DataW H × List MemPlace} (h : DataW.trod enc Tryz.prog w base spare held fuel 40 cs = some x) : ∃ (v : Value) (l : List UInt8), cs = [v] ∧ R (argX w) (.sl 1 l.length (byF l)) [v] := by
  obtain ⟨v, l, rfl, hr⟩ := trod_bytes Tryz.underlying40 Tryz.underlying5 (by kernel_rfl) h
  refine ⟨v, l, rfl, ?_⟩
  have e : l.map u8v = l.flatMap fun b => [u8v b] := by
    clear hr
    induction l with
    | nil => rfl
    | cons a l ih => rw [List.map_cons, List.flatMap_cons, ih]; rfl
  rw [e] at hr
  refine rsl_of (g := fun b : UInt8 => [u8v b]) (by omega) (fun b hb => rfl) hr (fun C i hi => ?_)
  unfold byF
  rw [List.getD_eq_getElem?_getD, List.getElem?_eq_getElem hi]
  exact .cons (.lit rfl) .nil
theorem trod_u8 {fuel : Nat} {cs : List Value} {x : DataW H × List MemPlace} (h : DataW.trod enc Tryz.prog w base spare held fuel 5 cs = some x) : ∃ n : Nat, n ≤ 255 ∧ cs = [.int .u8 (n : Int)] := by
  obtain ⟨z, e0, _, hz⟩ := DataW.trod_int Tryz.underlying5 h
  have hb : 0 ≤ z ∧ z ≤ 255 := by
    simp [Lit.wf, IntKind.min, IntKind.max, IntKind.signed, IntKind.bits] at hz
    omega
  obtain ⟨n, rfl⟩ : ∃ n : Nat, z = (n : Int) := ⟨z.toNat, by omega⟩
  exact ⟨n, by omega, e0⟩
end
section
variable {H : Type} {enc : TypeId × Value → H} {v : Value} {d : DataW H} {p : List MemPlace} {W : World} {base : Nat}
set_option maxRecDepth 100000 in
theorem open_f6 (hv : Value.okWide Tryz.prog W .any base 67 v) (h : DataW.Trod enc Tryz.prog W 0 (fun _ => true) true 67 v d p) :
    ∃ (cells seed : List UInt8) (ht cut : Nat), ht ≤ 255 ∧ cut ≤ 255 ∧ RV (argX W) (.w (.agg [.sl 1 cells.length (byF cells), .bs 16 seed, .lit (.int .u8 (ht : Int)), .lit (.int .u8 (cut : Int))])) v := by
  obtain ⟨cs, rfl, hfl, hf⟩ := open_parts (ns := [1, 16, 1, 1]) Tryz.underlying67 (by kernel_rfl) (by kernel_rfl) hv h
  obtain ⟨m0, y0, t0⟩ := hf 0 _ rfl
  obtain ⟨m1, y1, t1⟩ := hf 1 _ rfl
  obtain ⟨m2, y2, t2⟩ := hf 2 _ rfl
  obtain ⟨m3, y3, t3⟩ := hf 3 _ rfl
  have hcs : cs = (splitBy [1, 16, 1, 1] cs).getD 0 [] ++ ((splitBy [1, 16, 1, 1] cs).getD 1 [] ++ ((splitBy [1, 16, 1, 1] cs).getD 2 [] ++ ((splitBy [1, 16, 1, 1] cs).getD 3 [] ++ []))) := hfl.symm
  obtain ⟨v0, l0, e0, r0⟩ := trod_u8s t0
  obtain ⟨l1, hl1, e1⟩ := trod_bytesArr Tryz.underlying23 Tryz.underlying5 (by kernel_rfl) (by kernel_rfl) t1
  obtain ⟨n2, b2, e2⟩ := trod_u8 t2
  obtain ⟨n3, b3, e3⟩ := trod_u8 t3
  rw [e0, e1, e2, e3] at hcs
  refine ⟨l0, l1, n2, n3, b2, b3, ?_⟩
  rw [hcs]
  exact .w (.agg (.cons (xs := [_]) r0 (.cons (xs := l1.map u8v) (.bs hl1) (.cons (xs := [_]) (.lit rfl) (.cons (xs := [_]) (.lit rfl) .nil)))))
end
end Go.Proofs.YtplkplegjoabgaaGreatDoor.Pv


namespace Go.Proofs.YtplkplegjoabgaaGreatDoor
open Go.RowKit
def LeftR {α : Type} (p0 p : Prg α) (log : List Res) : Prop := ∀ tail, p0.run (replay (log ++ tail)) 0 = p.run (replay (log ++ tail)) log.length
theorem LeftR.start {α : Type} (p : Prg α) : LeftR p p [] := fun _ => rfl
theorem LeftR.step {α : Type} {p0 : Prg α} {a : Acc} {k : Res → Prg α} {log : List Res} (h : LeftR p0 (.ask a k) log) (r : Res) : LeftR p0 (k r) (log ++ [r]) := fun tail => by
  rw [List.append_assoc, h, List.length_append]
  have : replay (log ++ ([r] ++ tail)) a log.length = .ok r (log.length + 1) := by
    unfold replay
    rw [List.getElem?_append_right (Nat.le_refl _), Nat.sub_self]
    rfl
  simp only [Prg.run, this, List.length_cons, List.length_nil, Nat.zero_add]
theorem LeftR.ret {α : Type} {p0 : Prg α} {out : α} {log : List Res} (h : LeftR p0 (.ret out) log) : p0.run (replay log) 0 = .ok out log.length := by
  have := h []
  rwa [List.append_nil] at this
theorem LeftR.ask {α : Type} {p0 : Prg α} {a : Acc} {k : Res → Prg α} {log : List Res} (h : LeftR p0 (.ask a k) log) : p0.run (replay log) 0 = .error a log.length := by
  have := h []
  rw [List.append_nil] at this
  rw [this]
  have : replay log a log.length = .error a log.length := by
    unfold replay
    rw [List.getElem?_eq_none (Nat.le_refl _)]
  simp only [Prg.run, this]
theorem raiseTo_in17 (t : Nat) (h : t ≤ 16) : Prg.In 48 (Prg.raiseTo 2 16 t) := raiseTo_in 16 t h
theorem sign_in (h : Nat) (hh : h ≤ 4) : Prg.In 48 (Prg.sign h) := by
  unfold Prg.sign
  refine (levelOf_in 16).bind (levelOf_all 2 16) fun n hn => ?_
  have h16 : 2 ^ h ≤ 16 := pow_le16 h h (Nat.le_refl _) hh
  by_cases hg : 2 ^ h ≤ n
  · rw [if_pos hg]; trivial
  · rw [if_neg hg]
    exact (raiseTo_in17 (n + 1) (by omega)).bind' fun _ => trivial
theorem signI_in (h : Int) : Prg.In 48 (Prg.signI h) := by
  unfold Prg.signI
  split
  · exact sign_in _ (by omega)
  · trivial
theorem signI_within (h : Int) : (Prg.signI h).Within 399 := by
  unfold Prg.signI
  split
  · unfold Prg.sign
    refine Within.mono (n := 96 + 300) (Within.bindR (m := 300) (within_levelOf 2 16) (levelOf_all 2 16) fun n hn => ?_) (by omega)
    split
    · exact Within.mono (n := 0) trivial (by omega)
    · exact Within.mono (Within.bind (m := 0) (within_raiseTo 2 16 (n + 1)) fun _ => trivial) (by omega)
  · exact Within.mono (n := 0) trivial (by omega)
theorem aftC_length (a : Acc) (f : Bool × Bool) (c : List Int) : (aftC a f c).length = c.length := by unfold aftC; split <;> simp
end Go.Proofs.YtplkplegjoabgaaGreatDoor
namespace Go.Proofs.YtplkplegjoabgaaGreatDoor.Pv
open Go.RowKit
def bk4 (c : List Int) : List (List Int) := [[], [], c, []]
def z16s : List UInt8 := List.replicate 16 0
structure RunO where
  cells : List Int
  out : Sig × Int
  done : Bool
  many : Nat
def noOut : Sig × Int := (⟨0, [], []⟩, 0)
def runO (seed m : List UInt8) (h : Int) : Option (Nat × Int) × List Int × Nat → RunO
  | (some p, c, i) => ⟨c, sgO seed h m p, true, i⟩
  | (none, c, i) => ⟨c, noOut, false, i - 1⟩
def runS (seed m : List UInt8) (h : Int) (F : List UInt8) (c : List Int) : RunO := runO seed m h (exec (intB F) (Prg.signI h) c 0)
def runPV (x : RunO) : PV := .tup [.agg (hwPC (bk4 x.cells) z16s), .agg (sgC x.out), .one (.lit (.bool x.done)), .one (.lit (.int .i64 x.many)), .one (.lit (.bool true))]
theorem next_ret {seed m : List UInt8} {h : Int} {log : List Res} {out : Nat × Int} (hL : LeftR (Prg.signI h) (.ret out) log) : nextR seed m h log = (zeroAcc, sgO seed h m out, true) := by unfold nextR; rw [hL.ret]
theorem next_ask {seed m : List UInt8} {h : Int} {log : List Res} {a : Acc} {k : Res → Prg (Nat × Int)} (hL : LeftR (Prg.signI h) (.ask a k) log) : nextR seed m h log = (a, noOut, false) := by unfold nextR; rw [hL.ask]; rfl
theorem do_bk4 (c : List Int) (a : Acc) (f : Bool × Bool) (hk : a.kind = 1 ∨ a.kind = 2) (hb : a.bank = 2) (_ : 0 ≤ a.cell) : (doR (bk4 c) a.kind a.bank a.cell f.1 f.2).1 = bk4 (aftC a f c) ∧ (f.1 = false → (doR (bk4 c) a.kind a.bank a.cell f.1 f.2).2 = aftV a f c) := by
  unfold doR aftC aftV
  rw [hb]
  rcases hk with hk | hk
  · rw [if_pos hk, if_pos hk, if_pos hk]
    refine ⟨rfl, fun h => ?_⟩
    rw [h]
    rfl
  · have hk1 : ¬ a.kind = 1 := by omega
    rw [if_neg hk1, if_neg hk1, if_neg hk1]
    exact ⟨rfl, fun _ => rfl⟩
def ruL : List (Nat × Spec) := [(10, funSpec true nextG), (31, funSpec true fauG), (40, funSpec false doG)]
theorem ru_ok : ∀ p ∈ ruL, SpecOk Tryz.prog ShaMem p.1 p.2 := by
  intro p hp
  simp only [ruL, List.mem_cons, List.not_mem_nil, or_false] at hp
  rcases hp with rfl | rfl | rfl
  · exact next_spec
  · exact fault_spec
  · exact do_spec
theorem ruM : Mach Tryz.prog ShaMem (find ruL) := ⟨specs_of ru_ok, mixed_⟩
def ruSt (seed m : List UInt8) (h : Int) (F : List UInt8) (c : List Int) (log : List Res) : St :=
  ⟨[(2, none, pvI h), (4, none, pv1 (.sl 1 F.length (byF F))), (5, none, pv1 (.pt 0 0 0)), (6, none, pv1 (.pt 1 0 0)), (8, none, pv1 (.pt 2 0 0)), (10, none, pv1 (.pt 3 0 0)), (11, none, pv1 (.pt 4 0 0)), (15, none, pv1 (.ow 15003 0 2 0 log.length)), (16, none, pvI log.length)],
  [(0, none, 0, .box 53 (hwPC (bk4 c) z16s)), (1, none, 0, .box 23 [.bs 16 seed]), (2, none, 0, .box 23 [.bs 16 m]), (3, none, 0, .box 53 [.lit (.slice none 0 0), .lit (.slice none 0 0), .bs 16 z16s]),
   (4, none, 0, .box 35 [.lit (.int .i64 0), .lit (.slice none 0 0), .lit (.slice none 0 0), .lit (.int .i64 0)]), (15003, none, 0, .arr 106 2 log.length (resF log))]⟩
def ruSn (seed m : List UInt8) (h : Int) (F : List UInt8) (c : List Int) (log : List Res) (x : Acc × (Sig × Int) × Bool) : St :=
  ⟨(17, none, pv1 (.pt 5009 0 0)) :: (18, none, pv1 (.pt 5010 0 0)) :: (19, none, pvB x.2.2) :: (ruSt seed m h F c log).t, (5009, none, 0, .box 29 (accPC x.1)) :: (5010, none, 0, .box 35 (sgC x.2.1)) :: (ruSt seed m h F c log).o⟩
def ruSf (seed m : List UInt8) (h : Int) (F : List UInt8) (c : List Int) (log : List Res) (a : Acc) (f : Bool × Bool) : St :=
  ⟨(17, none, pv1 (.pt 5009 0 0)) :: (20, none, pv1 (.pt 8003 0 0)) :: (ruSt seed m h F c log).t, (5009, none, 0, .box 29 (accPC a)) :: (8003, none, 0, .box 89 (fauPC f)) :: (ruSt seed m h F c log).o⟩
def ruSd (seed m : List UInt8) (h : Int) (F : List UInt8) (c : List Int) (log : List Res) (f : Bool × Bool) (b : List (List Int)) (v : Int) : St :=
  ⟨(20, none, pv1 (.pt 8003 0 0)) :: (21, none, pv1 (.pt 9008 0 0)) :: (22, none, pv1 (.pt 9009 0 0)) :: (23, none, pvI 0) :: (ruSt seed m h F c log).t, (8003, none, 0, .box 89 (fauPC f)) :: (9008, none, 0, .box 53 (hwPC b z16s)) :: (9009, none, 0, .box 106 [.lit (.int .i64 v), .lit (.string { data := #[] })]) :: (ruSt seed m h F c log).o⟩
theorem resF_step (log : List Res) (r : Res) (g : Nat → List PC) (hg : g 0 = resPC r) (i : Nat) (hi : i < log.length + 1) : appF log.length (resF log) g i = resF (log ++ [r]) i := by
  unfold appF resF
  by_cases h : i < log.length
  · rw [if_pos h, List.getD_eq_getElem?_getD, List.getD_eq_getElem?_getD, List.getElem?_append_left h]
  · obtain rfl : i = log.length := by omega
    rw [if_neg h, Nat.sub_self, hg, List.getD_eq_getElem?_getD, List.getElem?_append_right (Nat.le_refl _), Nat.sub_self]
    rfl
theorem rest9 {l l' : List (Nat × Option Bool × PV)} (h : l = l') : SameT l l' := by
  subst h
  induction l with
  | nil => exact .nil
  | cons a l ih => obtain ⟨t, g, v⟩ := a; exact .cons rfl ih
theorem restW {l l' : Wr} (h : l = l') : SameW l l' := by
  subst h
  induction l with
  | nil => exact .nil
  | cons a l ih =>
    obtain ⟨x, g, vr, o⟩ := a
    refine .cons ?_ ih
    cases o with
    | box t l => exact .box rfl
    | arr e n len f => exact .arr rfl (fun _ _ => rfl)
    | dead => exact .dead
    | dev O stp l => exact .dev rfl
set_option maxRecDepth 100000 in
set_option maxHeartbeats 2000000 in
theorem run_fun (seed m : List UInt8) (h : Int) (_ : i64P h) (F : List UInt8) (c0 : List Int) (hc0 : c0.length = 48) : FunOk Tryz.prog ShaMem 16 false [.w (.agg (hwPC (bk4 c0) z16s)), .w (.agg [.bs 16 seed]), pvI h, .w (.agg [.bs 16 m]), pv1 (.sl 1 F.length (byF F))] (runPV (runS seed m h F c0)) := by
  have M := ruM
  have hbt : Tryz.prog.types[106].bytes = 24 := by kernel_rfl
  refine funOk_of Tryz.func16 rfl rfl sha_ext (fun A hS hn hI => ?_)
  refine tri_reg M hI hn (outs := ?_) (s' := ?_) ?_ ?_ ?_ ?_
  rotate_left 2
  · rfl
  · kernel_rfl
  · simp
  refine tri_reg M hI hn (outs := ?_) (s' := ?_) ?_ ?_ ?_ ?_
  rotate_left 2
  · rfl
  · kernel_rfl
  · simp
  refine tri_seq ?_
  refine tri_reg M hI hn (outs := ?_) (s' := ?_) ?_ ?_ ?_ ?_
  rotate_left 2
  · rfl
  · kernel_rfl
  · simp
  refine tri_block ?_
  refine tri_conv (s' := ruSt seed m h F c0 []) (fun a w hg => ((hg.nilRow (x := 15003) (e := 106) (n := 2) (t := 15) (by rfl) (by rfl)).reset (kT := [2, 4, 5, 6, 8, 10, 11, 15, 16]) (kO := [0, 1, 2, 3, 4, 15003]) (by rfl) (by simp)).same ?_ ?_) ?_
  · exact rest9 rfl
  · exact .cons (.box rfl) (.cons (.box rfl) (.cons (.box rfl) (.cons (.box rfl) (.cons (.box rfl) (.cons (.arr rfl (fun i hi => absurd hi (Nat.not_lt_zero i))) .nil)))))
  refine tri_loop 400 (fun k s => ∃ log c p, k = log.length ∧ s = ruSt seed m h F c log ∧ LeftR (Prg.signI h) p log ∧ exec (intB F) (Prg.signI h) c0 0 = exec (intB F) p c log.length ∧ p.Within (399 - k) ∧ k ≤ 399 ∧ Prg.In 48 p ∧ c.length = 48) 0 ⟨[], c0, Prg.signI h, rfl, rfl, LeftR.start _, rfl, signI_within h, by omega, signI_in h, hc0⟩ (by omega) (fun k s hJ hk => ?_)
  obtain ⟨log, c, p, rfl, rfl, hL, hX, hW, hk9, hIn, hcl⟩ := hJ
  have hnx : rowRes log.length (fun i => resF log (0 + i)) = log := by simp only [Nat.zero_add]; exact rowRes_resF log
  refine tri_seq ?_
  refine tri_reg M hI hn (outs := ?_) (s' := ?_) ?_ ?_ ?_ ?_
  rotate_left 2
  · rfl
  · kernel_rfl
  · simp
  refine tri_cond (b := ?_) ?_ (fun hc => ?_) (fun hc => ?_)
  rotate_left 1
  · rfl
  · refine tri_skip ?_
    change Tri _ _ _ _ _
    refine tri_seq ?_
    refine tri_block ?_
    refine tri_reg M hI hn (outs := ?_) (s' := ?_) ?_ ?_ ?_ ?_
    rotate_left 2
    · rfl
    · kernel_rfl
    · simp
      intro i _ x hx
      simp [resF, resPC] at hx
      rcases hx with rfl | rfl <;> rfl
    cases p with
    | ret out =>
      have hq := next_ret (seed := seed) (m := m) hL
      have hR : runS seed m h F c0 = ⟨c, sgO seed h m out, true, log.length⟩ := by unfold runS; rw [hX]; rfl
      refine tri_conv (s' := ruSn seed m h F c log (zeroAcc, sgO seed h m out, true)) (fun a w hg => (hg.reset (kT := [17, 18, 19, 2, 4, 5, 6, 8, 10, 11, 15, 16]) (kO := [5009, 5010, 0, 1, 2, 3, 4, 15003]) (by rfl) ?_).same ?_ ?_) ?_
      · simp only [All, and_true, List.append_nil, List.nil_append]
        exact fun i _ => rfl
      · exact .cons rfl (.cons rfl (.cons (by show pvB (nextR seed m h (rowRes log.length fun i => resF log (0 + i))).2.2 = _; rw [hnx, hq]) (rest9 rfl)))
      · exact .cons (.box (by show accPC (nextR seed m h (rowRes log.length fun i => resF log (0 + i))).1 = _; rw [hnx, hq])) (.cons (.box (by show sgC (nextR seed m h (rowRes log.length fun i => resF log (0 + i))).2.1 = _; rw [hnx, hq])) (restW rfl))
      refine tri_seq ?_
      refine tri_reg M hI hn (outs := ?_) (s' := ?_) ?_ ?_ ?_ ?_
      rotate_left 2
      · rfl
      · kernel_rfl
      · simp
      refine tri_cond (b := ?_) ?_ (fun hc => ?_) (fun hc => ?_)
      rotate_left 1
      · rfl
      · refine tri_reg M hI hn (outs := ?_) (s' := ?_) ?_ ?_ ?_ ?_
        rotate_left 2
        · rfl
        · kernel_rfl
        · simp
        refine tri_ret (fun a w hg => ⟨.inr rfl, _, ?_, hg⟩)
        refine retTo_cold (out := ?_) ?_ ?_ ?_ ?_ ?_
        rotate_left 1
        · rfl
        · simp
        · rfl
        · rfl
        rw [hR]
        rfl
      · cases hc
    | ask ac k =>
      have hq := next_ask (seed := seed) (m := m) hL
      obtain ⟨i1, i2, i3, i4, i5, i6⟩ := hIn
      refine tri_conv (s' := ruSn seed m h F c log (ac, noOut, false)) (fun a w hg => (hg.reset (kT := [17, 18, 19, 2, 4, 5, 6, 8, 10, 11, 15, 16]) (kO := [5009, 5010, 0, 1, 2, 3, 4, 15003]) (by rfl) ?_).same ?_ ?_) ?_
      · simp only [All, and_true, List.append_nil, List.nil_append]
        exact fun i _ => rfl
      · exact .cons rfl (.cons rfl (.cons (by show pvB (nextR seed m h (rowRes log.length fun i => resF log (0 + i))).2.2 = _; rw [hnx, hq]) (rest9 rfl)))
      · exact .cons (.box (by show accPC (nextR seed m h (rowRes log.length fun i => resF log (0 + i))).1 = _; rw [hnx, hq])) (.cons (.box (by show sgC (nextR seed m h (rowRes log.length fun i => resF log (0 + i))).2.1 = _; rw [hnx, hq])) (restW rfl))
      refine tri_seq ?_
      refine tri_reg M hI hn (outs := ?_) (s' := ?_) ?_ ?_ ?_ ?_
      rotate_left 2
      · rfl
      · kernel_rfl
      · simp
      refine tri_cond (b := ?_) ?_ (fun hc => ?_) (fun hc => ?_)
      rotate_left 1
      · rfl
      · cases hc
      · refine tri_skip ?_
        change Tri _ _ _ _ _
        refine tri_reg M hI hn (outs := ?_) (s' := ?_) ?_ ?_ ?_ ?_
        rotate_left 2
        · rfl
        · kernel_rfl
        · simp
          omega
        have hF : intB (rowB F.length (byF F)) = intB F := by rw [rowB_byF]
        obtain ⟨f, hf⟩ : ∃ f, faultAt (intB F) log.length = f := ⟨_, rfl⟩
        refine tri_conv (s' := ruSf seed m h F c log ac f) (fun a w hg => (hg.reset (kT := [17, 20, 2, 4, 5, 6, 8, 10, 11, 15, 16]) (kO := [5009, 8003, 0, 1, 2, 3, 4, 15003]) (by rfl) ?_).same ?_ ?_) ?_
        · simp only [All, and_true, List.append_nil, List.nil_append]
          exact fun i _ => rfl
        · exact .cons rfl (.cons rfl (rest9 rfl))
        · exact .cons (.box rfl) (.cons (.box (by show fauPC (faultAt (intB (rowB F.length (byF F))) log.length) = _; rw [hF, hf])) (restW rfl))
        obtain ⟨hd1, hd2⟩ := do_bk4 c ac f i1 i2 i3
        obtain ⟨y, hy⟩ : ∃ y, doR (bk4 c) ac.kind ac.bank ac.cell f.1 f.2 = y := ⟨_, rfl⟩
        rw [hy] at hd1 hd2
        refine tri_reg M hI hn (outs := ?_) (s' := ?_) ?_ ?_ ?_ ?_
        rotate_left 2
        · rfl
        · kernel_rfl
        · simp only [hwPC, rowBk_bankF]
          refine ⟨⟨isBkRow_bankF _ _, i1, ⟨by rw [i2]; decide, by rw [i2]; exact (by decide : (2:Int) < 4), i3, ?_⟩, i5, (by decide : (4:Nat) ≤ 1000), ?_⟩, trivial⟩
          · rw [i2]
            show ac.cell < (c.length : Int)
            rw [hcl]
            exact i4
          · intro l hl
            simp only [bk4, List.mem_cons, List.not_mem_nil, or_false] at hl
            rcases hl with rfl | rfl | rfl | rfl <;> simp [hcl]
        refine tri_conv (s' := ruSd seed m h F c log f y.1 y.2) (fun a w hg => (hg.reset (kT := [20, 21, 22, 23, 2, 4, 5, 6, 8, 10, 11, 15, 16]) (kO := [8003, 9008, 9009, 0, 1, 2, 3, 4, 15003]) (by rfl) ?_).same ?_ ?_) ?_
        · simp only [All, and_true, List.append_nil, List.nil_append]
          exact fun i _ => rfl
        · exact .cons rfl (.cons rfl (.cons rfl (.cons rfl (rest9 rfl))))
        · refine .cons (.box rfl) (.cons (.box ?_) (.cons (.box ?_) (restW rfl)))
          · show hwPC (doR (rowBk (bk4 c).length (bankF (bk4 c))) ac.kind ac.bank ac.cell f.1 f.2).1 z16s = _
            rw [rowBk_bankF, hy]
          · show resPC ⟨(doR (rowBk (bk4 c).length (bankF (bk4 c))) ac.kind ac.bank ac.cell f.1 f.2).2, noBytes⟩ = _
            rw [rowBk_bankF, hy]
            rfl
        refine tri_seq ?_
        refine tri_reg M hI hn (outs := ?_) (s' := ?_) ?_ ?_ ?_ ?_
        rotate_left 2
        · rfl
        · kernel_rfl
        · simp
        refine tri_cond (b := ?_) ?_ (fun hc => ?_) (fun hc => ?_)
        rotate_left 1
        · rfl
        · cases hc
        refine tri_skip ?_
        change Tri _ _ _ _ _
        refine tri_reg M hI hn (outs := ?_) (s' := ?_) ?_ ?_ ?_ ?_
        rotate_left 2
        · rfl
        · kernel_rfl
        · simp
        refine tri_seq ?_
        refine tri_reg M hI hn (outs := ?_) (s' := ?_) ?_ ?_ ?_ ?_
        rotate_left 2
        · rfl
        · kernel_rfl
        · simp
        refine tri_cond (b := ?_) ?_ (fun hc => ?_) (fun hc => ?_)
        rotate_left 1
        · rfl
        · have hcut : (faultAt (intB F) log.length).1 = true := by rw [hf]; exact hc
          have hR : runS seed m h F c0 = ⟨aftC ac f c, noOut, false, log.length⟩ := by
            unfold runS
            rw [hX]
            simp only [exec]
            rw [if_pos hcut, hf]
            rfl
          refine tri_reg M hI hn (outs := ?_) (s' := ?_) ?_ ?_ ?_ ?_
          rotate_left 2
          · rfl
          · kernel_rfl
          · simp
          refine tri_ret (fun a w hg => ⟨.inr rfl, _, ?_, hg⟩)
          refine retTo_ex (out := ?_) ?_ ?_ ?_ ?_
          rotate_left 1
          · rfl
          · simp
          · rfl
          · rw [hR, hd1]
            exact .tup (.cons (exW_refl rfl) (.cons (.agg (.cons (.cold rfl) (.cons .nil (.cons .nil (.cons (.cold rfl) .nil))))) (.cons (.one (.cold rfl)) (.cons (.one (.cold rfl)) (.cons (.one (.cold rfl)) .nil)))))
        · have hcut : ¬ (faultAt (intB F) log.length).1 = true := by rw [hf]; intro h2; rw [h2] at hc; cases hc
          have hcf : f.1 = false := by cases hq2 : f.1 with
            | true => rw [hf, hq2] at hcut; exact absurd rfl hcut
            | false => rfl
          have hv := hd2 hcf
          have hXn : exec (intB F) (Prg.signI h) c0 0 = exec (intB F) (k ⟨aftV ac f c, noBytes⟩) (aftC ac f c) (log.length + 1) := by
            rw [hX]
            simp only [exec]
            rw [if_neg hcut, hf]
          have hWn : Prg.Within (399 - (log.length + 1)) (k ⟨aftV ac f c, noBytes⟩) ∧ log.length + 1 ≤ 399 := by
            cases hz : 399 - log.length with
            | zero => rw [hz] at hW; exact hW.elim
            | succ q => rw [hz] at hW; refine ⟨?_, by omega⟩; rw [show 399 - (log.length + 1) = q from by omega]; exact hW _
          refine tri_skip ?_
          change Tri _ _ _ _ _
          refine tri_region M hI hn (outs := ?_) (s' := ?_) ?_ ?_ ?_ ?_
          rotate_left 2
          · rfl
          · kernel_rfl
          · simp
            rw [hbt]
            omega
          change Tri _ _ _ _ _
          refine tri_region M hI hn (outs := ?_) (s' := ?_) ?_ ?_ ?_ ?_
          rotate_left 2
          · rfl
          · kernel_rfl
          · simp
          intro a w hg
          refine ⟨log.length + 1, ruSt seed m h F (aftC ac f c) (log ++ [⟨aftV ac f c, noBytes⟩]), by omega, by omega, ⟨_, _, k ⟨aftV ac f c, noBytes⟩, by simp, rfl, hL.step _, ?_, hWn.1, hWn.2, i6 _, by rw [aftC_length, hcl]⟩, (hg.reset (kT := [2, 4, 5, 6, 8, 10, 11, 15, 16]) (kO := [0, 1, 2, 3, 4, 15003]) (by rfl) ?_).same ?_ ?_⟩
          · rw [hXn, List.length_append]
            rfl
          · simp only [All, and_true, List.append_nil, List.nil_append]
            exact appF_cold' (fun i _ => rfl) rfl
          · refine .cons rfl (.cons rfl (.cons rfl (.cons rfl (.cons rfl (.cons rfl (.cons rfl (.cons (by rw [List.length_append]; rfl) (.cons (by rw [wrap_nat log.length (by omega), List.length_append]; rfl) .nil))))))))
          · refine .cons (.box (by rw [hd1]; rfl)) (.cons (.box rfl) (.cons (.box rfl) (.cons (.box rfl) (.cons (.box rfl) (.cons (.arr (by rw [List.length_append]; rfl) (fun i hi => ?_)) .nil)))))
            rw [hv]
            exact resF_step log _ _ rfl i hi
  · have := of_decide_eq_false hc
    omega
end Go.Proofs.YtplkplegjoabgaaGreatDoor.Pv


namespace Go.Proofs.YtplkplegjoabgaaGreatDoor
open Go.RowKit
def stuckN (l : List Int) (b : Nat) : Nat → Nat
  | 0 => 0
  | k + 1 => stuckN l b k + (if l.getD (3 * b + k) 0 % 4 = 3 then 1 else 0)
def cellOf (l : List Int) (sound : Bool) (j : Nat) : Int := if sound = true ∧ 1 < stuckN l (j / 3) 3 then 0 else l.getD j 0 % 4
def bitsOf (l : List Int) : Nat := min (l.length / 3) 16
def cellsOf (l : List Int) (sound : Bool) : List Int := (List.range (3 * bitsOf l)).map (cellOf l sound)
theorem stuckN_le (l : List Int) (b k : Nat) : stuckN l b k ≤ k := by
  induction k with
  | zero => exact Nat.le_refl _
  | succ k ih => unfold stuckN; split <;> omega
theorem cells_step (l : List Int) (sound : Bool) (j : Nat) : (List.range (j + 1)).map (cellOf l sound) = (List.range j).map (cellOf l sound) ++ [cellOf l sound j] := by
  rw [List.range_succ, List.map_append]; rfl
theorem bits_at {l : List Int} {b k : Nat} (hb : b < bitsOf l) (hk : k < 3) : 3 * b + k < l.length := by unfold bitsOf at hb; omega
theorem own_oneE (w : World) (B : Nat) (e : TypeId) (u : Value) (hb : B ≤ w.heap.size) : (w.alloc (.cells #[u] e)).ownsRow B e 1 (.slice (some ⟨w.heap.size, 0, none⟩) 1 1) 1 [u] :=
  ⟨by simp, .inr ⟨w.heap.size, 1, #[u], rfl, hb, heap_alloc_new w _, Nat.le_refl _, by unfold maxLen; omega, by simp, by simp⟩⟩
theorem fuses_one {wr : World} {v V : Value} {n r B : Nat} {l : List Int} (hn : l.length = n) (h : wr.ownsRow B 5 1 v n (l.map (Value.int .u8))) (_hr : r < wr.heap.size) (hrB : r < B) (hB : B ≤ wr.heap.size) :
    FusesNew B ((wr.setCell ⟨r, 0, none⟩ V).alloc (.cells #[v] 40)) (.slice (some ⟨wr.heap.size, 0, none⟩) 1 1) [l] := by
  have hc : Chg (fun k => k = r) wr (wr.setCell ⟨r, 0, none⟩ V) := Chg.setCell (S := fun j => j = r) (p := ⟨r, 0, none⟩) (Chg.refl _ _) (.inl rfl) _
  have h' := ownsRow_chg h hc (fun k hk e => by have := (h.lt k hk).1; omega)
  have hz : (wr.setCell ⟨r, 0, none⟩ V).heap.size = wr.heap.size := by simp [World.setCell]
  refine ⟨B, [v], Nat.le_refl _, by have := own_oneE (wr.setCell ⟨r, 0, none⟩ V) B 40 v (by omega); rw [hz] at this; exact this, ?_⟩
  refine ⟨rfl, fun k bv x h1 h2 => ?_, fun i j bi bj g h1 h2 hij => ?_⟩
  · cases k with
    | zero =>
      cases h1
      cases h2
      rw [hn]
      exact ownsRow_ext h' (Chg.alloc (Ext.refl _) _)
    | succ k => cases h1
  · have : i = 0 := by
      cases i with
      | zero => rfl
      | succ i => cases h1
    have : j = 0 := by
      cases j with
      | zero => rfl
      | succ j => cases h2
    omega
theorem FusesNew.lower {B B' : Nat} {w : World} {fv : Value} {banks : List (List Int)} (h : FusesNew B w fv banks) (hb : B' ≤ B) : FusesNew B' w fv banks := by
  obtain ⟨C, bvs, h1, h2⟩ := h
  exact ⟨C, bvs, by omega, h2⟩
set_option maxHeartbeats 2000000 in
theorem cells_any (l : List Int) (lv : Value) (sound : Bool) (w : World) (hl : Reads w 1 lv l.length (l.map (Value.int .u8))) (h8 : ∀ x ∈ l, isU8 x) :
    Calls Tryz.prog 39 #[lv, .bool sound] w fun e w' =>
      ∃ fv, e = .returned (.tuple #[.agg #[fv], .int .i64 (bitsOf l)]) ∧ FusesNew w.heap.size w' fv [cellsOf l sound] ∧ Ext w w' := by
  have hm := hl.len_le
  unfold maxLen at hm
  have HL := hide hl
  obtain ⟨_, B, c, rfl, _, _, _⟩ := hl
  have hbits : (bitsOf l : Int) = if (l.length : Int) / 3 > 16 then 16 else (l.length : Int) / 3 := by unfold bitsOf; split <;> omega
  have hb16 : bitsOf l ≤ 16 := by unfold bitsOf; omega
  by_cases hb : (l.length : Int) / 3 > 16
  · rw [if_pos hb] at hbits
    have hx : decide ((16 : Int) < (l.length : Int) / 3) = true := by simpa using hb
    go_enter Tryz.func39, Tryz.ntmps39
    go_wp2
    go_loopw [7, 8] (fun s i wr => ∃ b : Nat, b ≤ bitsOf l ∧ i = .int .i64 b ∧ wr.ownsRow (w.heap.size + 1) 5 1 s (3 * b) (((List.range (3 * b)).map (cellOf l sound)).map (Value.int .u8)) ∧ Ext (w.alloc (.cells #[.slice none 0 0] 48)) wr) (fun _ i _ => 16 - (intOf i).toNat)
    case atStart => exact ⟨0, Nat.zero_le _, rfl, World.ownsRow_nil _ _ _ _, Ext.refl _⟩
    case round =>
      obtain ⟨b, hb, rfl, hown, hE⟩ := hrel
      have HO := hide (And.intro hown hE)
      clear hown hE
      by_cases hlt : b < bitsOf l
      · have hlt2 : (b : Int) < 16 := by omega
        go_wp2
        go_loop [9, 10] (fun n i => ∃ k : Nat, k ≤ 3 ∧ i = .int .i64 k ∧ n = .int .i64 (stuckN l b k)) (fun _ i => 3 - (intOf i).toNat)
        case atStart => exact ⟨0, by omega, rfl, rfl⟩
        case round =>
          obtain ⟨k, hk, rfl, rfl⟩ := hrel
          by_cases hk3 : k < 3
          · have hj := bits_at hlt hk3
            obtain ⟨b1, o, c', u, hv, _, _, hbw, hu, hc1⟩ := ((unhide HL).ext ((Chg.alloc (Ext.refl w) _ : Ext w (w.alloc (.cells #[.slice none 0 0] 48))).trans (unhide HO).2)).at1 hj
            cases hv
            rw [List.getElem?_map, List.getElem?_eq_getElem hj] at hu
            cases hu
            have hg := h8 _ (List.getElem_mem hj)
            obtain ⟨hg0, hg1⟩ := hg
            have HS := hide (show stuckN l b (k + 1) = stuckN l b k + (if l[3 * b + k] % 4 = 3 then 1 else 0) by rw [stuckN, List.getD_eq_getElem?_getD, List.getElem?_eq_getElem hj]; rfl)
            have hle := stuckN_le l b k
            have hj0 : (0 : Int) ≤ 3 * (b : Int) + (k : Int) := by omega
            have hj1 : 3 * (b : Int) + (k : Int) < (l.length : Int) := by omega
            have hj2 : (3 * (b : Int) + (k : Int)).toNat = 3 * b + k := by omega
            have hi64 : IntKind.i64.wrap (3 * (b : Int)) = 3 * (b : Int) := IntWalk.i64_in _ (by omega)
            have hi65 : IntKind.i64.wrap (3 * (b : Int) + (k : Int)) = 3 * (b : Int) + (k : Int) := IntWalk.i64_in _ (by omega)
            generalize stuckN l b k = n0 at *
            generalize l[3 * b + k] = x at *
            by_cases hx : x % 4 = 3
            · have hx' : (x % 4 == 3) = true := by simp [hx]
              have HX := hide hx
              clear hx
              go_wp2
              go_round
              case rel => exact ⟨k + 1, by omega, by go_num, int_eq (by rw [unhide HS, if_pos (unhide HX)]; rfl)⟩
              case measure => simp [intOf]; omega
            · have hx' : (x % 4 == 3) = false := by simp [hx]
              have HX := hide hx
              clear hx
              go_wp2
              go_round
              case rel => exact ⟨k + 1, by omega, by go_num, int_eq (by rw [unhide HS, if_neg (unhide HX)]; rfl)⟩
              case measure => simp [intOf]; omega
          · obtain rfl : k = 3 := by omega
            go_wp2
            go_loopw [7, 11] (fun s i wq => ∃ k : Nat, k ≤ 3 ∧ i = .int .i64 k ∧ wq.ownsRow (w.heap.size + 1) 5 1 s (3 * b + k) (((List.range (3 * b + k)).map (cellOf l sound)).map (Value.int .u8)) ∧ Ext (w.alloc (.cells #[.slice none 0 0] 48)) wq) (fun _ i _ => 3 - (intOf i).toNat)
            case atStart => exact ⟨0, by omega, rfl, (unhide HO).1, (unhide HO).2⟩
            case round =>
              obtain ⟨k, hk, rfl, hown, hE⟩ := hrel
              have HP := hide (And.intro hown hE)
              clear hown hE
              by_cases hk3 : k < 3
              · have hj := bits_at hlt hk3
                obtain ⟨b1, o, c', u, hv, _, _, hbw, hu, hc1⟩ := ((unhide HL).ext ((Chg.alloc (Ext.refl w) _ : Ext w (w.alloc (.cells #[.slice none 0 0] 48))).trans (unhide HP).2)).at1 hj
                cases hv
                rw [List.getElem?_map, List.getElem?_eq_getElem hj] at hu
                cases hu
                have hg := h8 _ (List.getElem_mem hj)
                obtain ⟨hg0, hg1⟩ := hg
                have HS := hide (show cellOf l sound (3 * b + k) = if sound = true ∧ 1 < stuckN l b 3 then 0 else l[3 * b + k] % 4 by unfold cellOf; rw [show (3 * b + k) / 3 = b from by omega, List.getD_eq_getElem?_getD, List.getElem?_eq_getElem hj]; rfl)
                have hle := stuckN_le l b 3
                have hj0 : (0 : Int) ≤ 3 * (b : Int) + (k : Int) := by omega
                have hj1 : 3 * (b : Int) + (k : Int) < (l.length : Int) := by omega
                have hj2 : (3 * (b : Int) + (k : Int)).toNat = 3 * b + k := by omega
                have hi64 : IntKind.i64.wrap (3 * (b : Int)) = 3 * (b : Int) := IntWalk.i64_in _ (by omega)
                have hi65 : IntKind.i64.wrap (3 * (b : Int) + (k : Int)) = 3 * (b : Int) + (k : Int) := IntWalk.i64_in _ (by omega)
                have hsz : Hid (w.heap.size + 1 ≤ wr.heap.size) := hide (by have := (unhide HP).2.size'; simpa using this)
                generalize stuckN l b 3 = n0 at *
                generalize l[3 * b + k] = x at *
                cases sound with
                | false =>
                  have HV : Hid (cellOf l false (3 * b + k) = x % 4) := hide (by rw [unhide HS, if_neg (by simp)])
                  go_wp2_with (at_builtin; refine wpList_app rfl rfl u8_rowE rfl (ownsRow_ext (unhide HP).1 ((Ext.refl _).alloc _)) rfl (Reads.new1 _ _ _) (AllOne.one rfl) (by omega) (Nat.le_trans (unhide hsz) (by simp)) ?_; intro A' c' w2 ho hc hv)
                  have HQ := hide (And.intro ho (((unhide HP).2.alloc _).trans' hc (fun _ _ h => h) (fun i hi hi' => absurd ((unhide HP).1.lt i hi').1 (by simp only [World.size_alloc] at hi; omega))))
                  clear ho hc hv
                  go_wp2
                  go_roundw
                  case rel => exact ⟨k + 1, by omega, by go_num, by rw [show 3 * b + (k + 1) = 3 * b + k + 1 from rfl, cells_step, List.map_append, unhide HV]; exact (unhide HQ).1, (unhide HQ).2⟩
                  case measure => simp [intOf]; omega
                | true =>
                  by_cases hn1 : 1 < n0
                  · have HV : Hid (cellOf l true (3 * b + k) = 0) := hide (by rw [unhide HS, if_pos ⟨rfl, hn1⟩])
                    have hn2 : (1 : Int) < (n0 : Int) := by omega
                    go_wp2_with (at_builtin; refine wpList_app rfl rfl u8_rowE rfl (ownsRow_ext (unhide HP).1 ((Ext.refl _).alloc _)) rfl (Reads.new1 _ _ _) (AllOne.one rfl) (by omega) (Nat.le_trans (unhide hsz) (by simp)) ?_; intro A' c' w2 ho hc hv)
                    have HQ := hide (And.intro ho (((unhide HP).2.alloc _).trans' hc (fun _ _ h => h) (fun i hi hi' => absurd ((unhide HP).1.lt i hi').1 (by simp only [World.size_alloc] at hi; omega))))
                    clear ho hc hv
                    go_wp2
                    go_roundw
                    case rel => exact ⟨k + 1, by omega, by go_num, by rw [show 3 * b + (k + 1) = 3 * b + k + 1 from rfl, cells_step, List.map_append, unhide HV]; exact (unhide HQ).1, (unhide HQ).2⟩
                    case measure => simp [intOf]; omega
                  · have HV : Hid (cellOf l true (3 * b + k) = x % 4) := hide (by rw [unhide HS, if_neg (fun h => hn1 h.2)])
                    have hn2 : ¬ (1 : Int) < (n0 : Int) := by omega
                    go_wp2_with (at_builtin; refine wpList_app rfl rfl u8_rowE rfl (ownsRow_ext (unhide HP).1 ((Ext.refl _).alloc _)) rfl (Reads.new1 _ _ _) (AllOne.one rfl) (by omega) (Nat.le_trans (unhide hsz) (by simp)) ?_; intro A' c' w2 ho hc hv)
                    have HQ := hide (And.intro ho (((unhide HP).2.alloc _).trans' hc (fun _ _ h => h) (fun i hi hi' => absurd ((unhide HP).1.lt i hi').1 (by simp only [World.size_alloc] at hi; omega))))
                    clear ho hc hv
                    go_wp2
                    go_roundw
                    case rel => exact ⟨k + 1, by omega, by go_num, by rw [show 3 * b + (k + 1) = 3 * b + k + 1 from rfl, cells_step, List.map_append, unhide HV]; exact (unhide HQ).1, (unhide HQ).2⟩
                    case measure => simp [intOf]; omega
              · obtain rfl : k = 3 := by omega
                go_wp2
                go_roundw
                case rel => exact ⟨b + 1, by omega, by go_num, (unhide HP).1, (unhide HP).2⟩
                case measure => simp [intOf]; omega
      · obtain rfl : b = bitsOf l := by omega
        have hlt2 : ¬ ((bitsOf l : Nat) : Int) < 16 := by omega
        have HB := hide hbits
        clear hbits
        have hF := (Blk.new w 48 #[.slice none 0 0]).ext (unhide HO).2
        obtain ⟨f0, ff, fl⟩ := hF.cells1
        obtain ⟨A1, c1, rfl⟩ := own_slice (unhide HO).1
        go_wp2
        refine bodyPost_ret (v := .tuple #[.agg #[.slice (some ⟨wr.heap.size, 0, none⟩) 1 1], .int .i64 (16)]) (by simp [results, Tryz.results39, go_sem, f0, fl]) rfl ⟨_, by rw [unhide HB], FusesNew.lower (fuses_one (l := cellsOf l sound) (by simp [cellsOf]) (unhide HO).1 fl (Nat.lt_succ_self _) (by simpa using (unhide HO).2.size')) (Nat.le_succ _), ?_⟩
        have hE := Ext.trans (Chg.alloc (Ext.refl w) _ : Ext w (w.alloc (.cells #[.slice none 0 0] 48))) (unhide HO).2
        repeat' (first | (with_reducible exact Chg.refl _ _) | (with_reducible exact Ext.refl _) | (with_reducible assumption) | (with_reducible refine Chg.alloc ?_ _) | (with_reducible refine Chg.drew ?_) | (with_reducible refine Chg.drewN ?_ _) | (with_reducible refine Chg.setCell ?_ ?_ _) | (with_reducible refine Ext.alloc ?_ _) | (with_reducible refine Ext.drew ?_) | (with_reducible refine Ext.drewN ?_ _) | (with_reducible refine Ext.setCell ?_ ?_ _) | (simp; done) | (simp; omega) | omega)
  · rw [if_neg hb] at hbits
    have hx : decide ((16 : Int) < (l.length : Int) / 3) = false := by simpa using hb
    go_enter Tryz.func39, Tryz.ntmps39
    go_wp2
    go_loopw [7, 8] (fun s i wr => ∃ b : Nat, b ≤ bitsOf l ∧ i = .int .i64 b ∧ wr.ownsRow (w.heap.size + 1) 5 1 s (3 * b) (((List.range (3 * b)).map (cellOf l sound)).map (Value.int .u8)) ∧ Ext (w.alloc (.cells #[.slice none 0 0] 48)) wr) (fun _ i _ => 16 - (intOf i).toNat)
    case atStart => exact ⟨0, Nat.zero_le _, rfl, World.ownsRow_nil _ _ _ _, Ext.refl _⟩
    case round =>
      obtain ⟨b, hb, rfl, hown, hE⟩ := hrel
      have HO := hide (And.intro hown hE)
      clear hown hE
      by_cases hlt : b < bitsOf l
      · have hlt2 : (b : Int) < ((l.length:Int)/3) := by omega
        go_wp2
        go_loop [9, 10] (fun n i => ∃ k : Nat, k ≤ 3 ∧ i = .int .i64 k ∧ n = .int .i64 (stuckN l b k)) (fun _ i => 3 - (intOf i).toNat)
        case atStart => exact ⟨0, by omega, rfl, rfl⟩
        case round =>
          obtain ⟨k, hk, rfl, rfl⟩ := hrel
          by_cases hk3 : k < 3
          · have hj := bits_at hlt hk3
            obtain ⟨b1, o, c', u, hv, _, _, hbw, hu, hc1⟩ := ((unhide HL).ext ((Chg.alloc (Ext.refl w) _ : Ext w (w.alloc (.cells #[.slice none 0 0] 48))).trans (unhide HO).2)).at1 hj
            cases hv
            rw [List.getElem?_map, List.getElem?_eq_getElem hj] at hu
            cases hu
            have hg := h8 _ (List.getElem_mem hj)
            obtain ⟨hg0, hg1⟩ := hg
            have HS := hide (show stuckN l b (k + 1) = stuckN l b k + (if l[3 * b + k] % 4 = 3 then 1 else 0) by rw [stuckN, List.getD_eq_getElem?_getD, List.getElem?_eq_getElem hj]; rfl)
            have hle := stuckN_le l b k
            have hj0 : (0 : Int) ≤ 3 * (b : Int) + (k : Int) := by omega
            have hj1 : 3 * (b : Int) + (k : Int) < (l.length : Int) := by omega
            have hj2 : (3 * (b : Int) + (k : Int)).toNat = 3 * b + k := by omega
            have hi64 : IntKind.i64.wrap (3 * (b : Int)) = 3 * (b : Int) := IntWalk.i64_in _ (by omega)
            have hi65 : IntKind.i64.wrap (3 * (b : Int) + (k : Int)) = 3 * (b : Int) + (k : Int) := IntWalk.i64_in _ (by omega)
            generalize stuckN l b k = n0 at *
            generalize l[3 * b + k] = x at *
            by_cases hx : x % 4 = 3
            · have hx' : (x % 4 == 3) = true := by simp [hx]
              have HX := hide hx
              clear hx
              go_wp2
              go_round
              case rel => exact ⟨k + 1, by omega, by go_num, int_eq (by rw [unhide HS, if_pos (unhide HX)]; rfl)⟩
              case measure => simp [intOf]; omega
            · have hx' : (x % 4 == 3) = false := by simp [hx]
              have HX := hide hx
              clear hx
              go_wp2
              go_round
              case rel => exact ⟨k + 1, by omega, by go_num, int_eq (by rw [unhide HS, if_neg (unhide HX)]; rfl)⟩
              case measure => simp [intOf]; omega
          · obtain rfl : k = 3 := by omega
            go_wp2
            go_loopw [7, 11] (fun s i wq => ∃ k : Nat, k ≤ 3 ∧ i = .int .i64 k ∧ wq.ownsRow (w.heap.size + 1) 5 1 s (3 * b + k) (((List.range (3 * b + k)).map (cellOf l sound)).map (Value.int .u8)) ∧ Ext (w.alloc (.cells #[.slice none 0 0] 48)) wq) (fun _ i _ => 3 - (intOf i).toNat)
            case atStart => exact ⟨0, by omega, rfl, (unhide HO).1, (unhide HO).2⟩
            case round =>
              obtain ⟨k, hk, rfl, hown, hE⟩ := hrel
              have HP := hide (And.intro hown hE)
              clear hown hE
              by_cases hk3 : k < 3
              · have hj := bits_at hlt hk3
                obtain ⟨b1, o, c', u, hv, _, _, hbw, hu, hc1⟩ := ((unhide HL).ext ((Chg.alloc (Ext.refl w) _ : Ext w (w.alloc (.cells #[.slice none 0 0] 48))).trans (unhide HP).2)).at1 hj
                cases hv
                rw [List.getElem?_map, List.getElem?_eq_getElem hj] at hu
                cases hu
                have hg := h8 _ (List.getElem_mem hj)
                obtain ⟨hg0, hg1⟩ := hg
                have HS := hide (show cellOf l sound (3 * b + k) = if sound = true ∧ 1 < stuckN l b 3 then 0 else l[3 * b + k] % 4 by unfold cellOf; rw [show (3 * b + k) / 3 = b from by omega, List.getD_eq_getElem?_getD, List.getElem?_eq_getElem hj]; rfl)
                have hle := stuckN_le l b 3
                have hj0 : (0 : Int) ≤ 3 * (b : Int) + (k : Int) := by omega
                have hj1 : 3 * (b : Int) + (k : Int) < (l.length : Int) := by omega
                have hj2 : (3 * (b : Int) + (k : Int)).toNat = 3 * b + k := by omega
                have hi64 : IntKind.i64.wrap (3 * (b : Int)) = 3 * (b : Int) := IntWalk.i64_in _ (by omega)
                have hi65 : IntKind.i64.wrap (3 * (b : Int) + (k : Int)) = 3 * (b : Int) + (k : Int) := IntWalk.i64_in _ (by omega)
                have hsz : Hid (w.heap.size + 1 ≤ wr.heap.size) := hide (by have := (unhide HP).2.size'; simpa using this)
                generalize stuckN l b 3 = n0 at *
                generalize l[3 * b + k] = x at *
                cases sound with
                | false =>
                  have HV : Hid (cellOf l false (3 * b + k) = x % 4) := hide (by rw [unhide HS, if_neg (by simp)])
                  go_wp2_with (at_builtin; refine wpList_app rfl rfl u8_rowE rfl (ownsRow_ext (unhide HP).1 ((Ext.refl _).alloc _)) rfl (Reads.new1 _ _ _) (AllOne.one rfl) (by omega) (Nat.le_trans (unhide hsz) (by simp)) ?_; intro A' c' w2 ho hc hv)
                  have HQ := hide (And.intro ho (((unhide HP).2.alloc _).trans' hc (fun _ _ h => h) (fun i hi hi' => absurd ((unhide HP).1.lt i hi').1 (by simp only [World.size_alloc] at hi; omega))))
                  clear ho hc hv
                  go_wp2
                  go_roundw
                  case rel => exact ⟨k + 1, by omega, by go_num, by rw [show 3 * b + (k + 1) = 3 * b + k + 1 from rfl, cells_step, List.map_append, unhide HV]; exact (unhide HQ).1, (unhide HQ).2⟩
                  case measure => simp [intOf]; omega
                | true =>
                  by_cases hn1 : 1 < n0
                  · have HV : Hid (cellOf l true (3 * b + k) = 0) := hide (by rw [unhide HS, if_pos ⟨rfl, hn1⟩])
                    have hn2 : (1 : Int) < (n0 : Int) := by omega
                    go_wp2_with (at_builtin; refine wpList_app rfl rfl u8_rowE rfl (ownsRow_ext (unhide HP).1 ((Ext.refl _).alloc _)) rfl (Reads.new1 _ _ _) (AllOne.one rfl) (by omega) (Nat.le_trans (unhide hsz) (by simp)) ?_; intro A' c' w2 ho hc hv)
                    have HQ := hide (And.intro ho (((unhide HP).2.alloc _).trans' hc (fun _ _ h => h) (fun i hi hi' => absurd ((unhide HP).1.lt i hi').1 (by simp only [World.size_alloc] at hi; omega))))
                    clear ho hc hv
                    go_wp2
                    go_roundw
                    case rel => exact ⟨k + 1, by omega, by go_num, by rw [show 3 * b + (k + 1) = 3 * b + k + 1 from rfl, cells_step, List.map_append, unhide HV]; exact (unhide HQ).1, (unhide HQ).2⟩
                    case measure => simp [intOf]; omega
                  · have HV : Hid (cellOf l true (3 * b + k) = x % 4) := hide (by rw [unhide HS, if_neg (fun h => hn1 h.2)])
                    have hn2 : ¬ (1 : Int) < (n0 : Int) := by omega
                    go_wp2_with (at_builtin; refine wpList_app rfl rfl u8_rowE rfl (ownsRow_ext (unhide HP).1 ((Ext.refl _).alloc _)) rfl (Reads.new1 _ _ _) (AllOne.one rfl) (by omega) (Nat.le_trans (unhide hsz) (by simp)) ?_; intro A' c' w2 ho hc hv)
                    have HQ := hide (And.intro ho (((unhide HP).2.alloc _).trans' hc (fun _ _ h => h) (fun i hi hi' => absurd ((unhide HP).1.lt i hi').1 (by simp only [World.size_alloc] at hi; omega))))
                    clear ho hc hv
                    go_wp2
                    go_roundw
                    case rel => exact ⟨k + 1, by omega, by go_num, by rw [show 3 * b + (k + 1) = 3 * b + k + 1 from rfl, cells_step, List.map_append, unhide HV]; exact (unhide HQ).1, (unhide HQ).2⟩
                    case measure => simp [intOf]; omega
              · obtain rfl : k = 3 := by omega
                go_wp2
                go_roundw
                case rel => exact ⟨b + 1, by omega, by go_num, (unhide HP).1, (unhide HP).2⟩
                case measure => simp [intOf]; omega
      · obtain rfl : b = bitsOf l := by omega
        have hlt2 : ¬ ((bitsOf l : Nat) : Int) < ((l.length:Int)/3) := by omega
        have HB := hide hbits
        clear hbits
        have hF := (Blk.new w 48 #[.slice none 0 0]).ext (unhide HO).2
        obtain ⟨f0, ff, fl⟩ := hF.cells1
        obtain ⟨A1, c1, rfl⟩ := own_slice (unhide HO).1
        go_wp2
        refine bodyPost_ret (v := .tuple #[.agg #[.slice (some ⟨wr.heap.size, 0, none⟩) 1 1], .int .i64 (((l.length:Int)/3))]) (by simp [results, Tryz.results39, go_sem, f0, fl]) rfl ⟨_, by rw [unhide HB], FusesNew.lower (fuses_one (l := cellsOf l sound) (by simp [cellsOf]) (unhide HO).1 fl (Nat.lt_succ_self _) (by simpa using (unhide HO).2.size')) (Nat.le_succ _), ?_⟩
        have hE := Ext.trans (Chg.alloc (Ext.refl w) _ : Ext w (w.alloc (.cells #[.slice none 0 0] 48))) (unhide HO).2
        repeat' (first | (with_reducible exact Chg.refl _ _) | (with_reducible exact Ext.refl _) | (with_reducible assumption) | (with_reducible refine Chg.alloc ?_ _) | (with_reducible refine Chg.drew ?_) | (with_reducible refine Chg.drewN ?_ _) | (with_reducible refine Chg.setCell ?_ ?_ _) | (with_reducible refine Ext.alloc ?_ _) | (with_reducible refine Ext.drew ?_) | (with_reducible refine Ext.drewN ?_ _) | (with_reducible refine Ext.setCell ?_ ?_ _) | (simp; done) | (simp; omega) | omega)
end Go.Proofs.YtplkplegjoabgaaGreatDoor


namespace Go.Proofs.YtplkplegjoabgaaGreatDoor
open Go.RowKit
def devCells (l : List Int) (sound : Bool) : List Int := cellsOf l sound ++ List.replicate (48 - 3 * bitsOf l) 0
theorem cellsOf_length (l : List Int) (sound : Bool) : (cellsOf l sound).length = 3 * bitsOf l := by simp [cellsOf]
theorem bitsOf_le (l : List Int) : bitsOf l ≤ 16 := Nat.min_le_right _ _
theorem devCells_length (l : List Int) (sound : Bool) : (devCells l sound).length = 48 := by
  have := bitsOf_le l
  simp [devCells, cellsOf_length]
  omega
def sliceLen : Value → Nat
  | .slice _ n _ => n
  | _ => 0
def hwCells (fv : Value) : Array Value := #[fv, .slice none 0 0, .int .u8 0, .int .u8 0, .int .u8 0, .int .u8 0, .int .u8 0, .int .u8 0, .int .u8 0, .int .u8 0, .int .u8 0, .int .u8 0, .int .u8 0, .int .u8 0, .int .u8 0, .int .u8 0, .int .u8 0, .int .u8 0]
theorem hwCells_one (b : Option Addr) (n c : Nat) : (hwCells (.slice b n c)).all (·.oneCell') = true := by simp [hwCells, Value.oneCell']
theorem own_lit (w : World) (cs : List Value) (B : Nat) (hb : B ≤ w.heap.size) (hm : cs.length ≤ maxLen) : (w.alloc (.cells cs.toArray 40)).ownsRow B 40 1 (.slice (some ⟨w.heap.size, 0, none⟩) cs.length cs.length) cs.length cs :=
  ⟨by simp, .inr ⟨w.heap.size, cs.length, cs.toArray, rfl, hb, heap_alloc_new w _, Nat.le_refl _, hm, by simp, by simp⟩⟩
theorem own_empty1 (w : World) (o : Obj) (e : TypeId) (size : Nat) : ((w.alloc o).alloc (.cells #[] e)).ownsRow w.heap.size e size (.slice (some ⟨w.heap.size + 1, 0, none⟩) 0 0) 0 [] := by
  have h := own_empty (w.alloc o) w.heap.size e size (by rw [World.size_alloc]; exact Nat.le_succ _)
  rw [World.size_alloc] at h
  exact h
set_option maxRecDepth 100000 in
set_option maxHeartbeats 2000000 in
theorem device_any (l : List Int) (lv : Value) (sound : Bool) (w : World) (hl : Reads w 1 lv l.length (l.map (Value.int .u8))) (h8 : ∀ x ∈ l, isU8 x) :
    Calls Tryz.prog 15 #[lv, .bool sound] w fun e w' =>
      ∃ fv, e = .returned (.agg (hwCells fv)) ∧ FusesNew w.heap.size w' fv [[], [], devCells l sound, []] ∧ Ext w w' := by
  have HL := hide hl
  obtain ⟨_, A, c, rfl, _⟩ := hl
  go_enter Tryz.func15, Tryz.ntmps15
  go_wp2_with fail
  refine (cells_any l _ sound _ ((unhide HL).ext (Chg.alloc (Ext.refl w) _)) h8).mono ?_
  rintro e w1 ⟨fv, rfl, hF, hE⟩
  have hB4 := (Blk.new w 53 (hwCells (.slice none 0 0))).ext hE
  have hsz := hE.size'
  simp only [World.size_alloc] at hsz
  obtain ⟨b, o, c', bv, rfl, hbw, hcell, hr⟩ := hF.fuses.at_ (show 0 < [cellsOf l sound].length from by simp)
  have hr' : Reads w1 1 bv (cellsOf l sound).length ((cellsOf l sound).map (Value.int .u8)) := hr
  have HR := hide (And.intro hB4 (And.intro hr' ((Chg.alloc (Ext.refl w) _ : Ext w (w.alloc (.cells (hwCells (.slice none 0 0)) 53))).trans hE)))
  have hlen : (cellsOf l sound).length = 3 * bitsOf l := cellsOf_length l sound
  have hb16 := bitsOf_le l
  clear hE hF hr hr' hB4
  have HS := hide hsz
  have hcell : w1.cell? ⟨b, o, none⟩ = some bv := by simpa using hcell
  go_wp2_with (at_builtin; refine wpList_app rfl rfl u8_rowE (n := 0) (xs := []) rfl (own_empty1 _ _ _ _) rfl (((unhide HR).2.1.ext (Chg.alloc (Ext.refl _) _)).ext (Chg.alloc (Ext.refl _) _)) (AllOne.map (fun _ => rfl) _) (by omega) (by rw [World.size_alloc, World.size_alloc]; exact Nat.le_add_right _ 2) ?_; intro A' c2 w2 ho hc hv)
  have hE2 : Ext w1 w2 := (Chg.alloc (Chg.alloc (Ext.refl w1) _) _).trans' hc (fun _ _ h => h) (fun i hi e => by have e' : some (w1.heap.size + 1) = some i := e; injection e'; omega)
  simp only [Nat.zero_add, List.nil_append] at ho ⊢
  have HO := hide (And.intro ho hE2)
  clear ho hE2 hc hv
  go_loopw [7] (fun s wr => ∃ k : Nat, 3 * bitsOf l ≤ k ∧ k ≤ 48 ∧ wr.ownsRow w1.heap.size 5 1 s k ((cellsOf l sound ++ List.replicate (k - 3 * bitsOf l) 0).map (Value.int .u8)) ∧ Ext w1 wr) (fun s _ => 48 - sliceLen s)
  case atStart => exact ⟨3 * bitsOf l, Nat.le_refl _, by omega, by rw [Nat.sub_self, List.replicate_zero, List.append_nil]; have := (unhide HO).1; rwa [cellsOf_length] at this, (unhide HO).2⟩
  case round =>
    obtain ⟨k, hk0, hk, hown, hE⟩ := hrel
    have HP := hide (And.intro hown hE)
    obtain ⟨A3, c3, rfl⟩ := own_slice hown
    clear hown hE
    by_cases hlt : k < 48
    · have hlt2 : (k : Int) < 48 := by omega
      have hsz2 : w1.heap.size ≤ wr.heap.size := (unhide HP).2.size'
      go_wp2_with (at_builtin; refine wpList_app rfl rfl u8_rowE (n := k) rfl (ownsRow_ext (unhide HP).1 ((Ext.refl _).alloc _)) rfl (Reads.new1 _ _ _) (AllOne.one rfl) (by omega) (Nat.le_trans hsz2 (by rw [World.size_alloc]; exact Nat.le_succ _)) ?_; intro A4 c4 w4 ho hc hv)
      have HQ := hide (And.intro ho (((unhide HP).2.alloc _).trans' hc (fun _ _ h => h) (fun i hi hi' => absurd ((unhide HP).1.lt i hi').1 (by omega))))
      clear ho hc hv
      go_wp2
      go_roundw
      case rel => exact ⟨k + 1, by omega, by omega, by rw [show k + 1 - 3 * bitsOf l = (k - 3 * bitsOf l) + 1 from by omega, List.replicate_succ', ← List.append_assoc, List.map_append]; exact (unhide HQ).1, (unhide HQ).2⟩
      case measure => simp [sliceLen]; omega
    · obtain rfl : k = 48 := by omega
      have hb16' : decide ((16 : Int) < (bitsOf l : Int)) = false := by simp; omega
      have hlt3 : ¬ ((48 : Nat) : Int) < 48 := by omega
      have hBw := (unhide HR).1.ext (unhide HP).2
      have hBl := hBw.lt
      go_wp2_with (first
        | ((with_reducible show wpList _ _ _ [_] _ _)
           refine wpList_storeB (ty := 53) (t := 53) (old := hwCells (.slice none 0 0)) (x := .tmp 4) (y := .tmp 33) (cs := hwCells (.slice (some ⟨wr.heap.size, 0, none⟩) 4 4)) rfl rfl hw_wide rfl rfl (hBw.alloc _) rfl rfl (hwCells_one _ _ _) ?_
           intro wa hb9 hca hsa))
      refine bodyPost_ret (v := .agg (hwCells (.slice (some ⟨wr.heap.size, 0, none⟩) 4 4))) (results_blk hw_wide rfl hb9 rfl rfl) rfl ⟨_, rfl, ?_, ?_⟩
      · have ho := (unhide HP).1
        have hl := ho.lt
        refine ⟨w1.heap.size, [.slice none 0 0, .slice none 0 0, .slice A3 48 c3, .slice none 0 0], by omega, ownsRow_chg (own_lit wr [.slice none 0 0, .slice none 0 0, .slice A3 48 c3, .slice none 0 0] _ (unhide HP).2.size' (show 4 ≤ maxLen by decide)) hca (fun j hj e => by have hj' : some wr.heap.size = some j := hj; injection hj'; omega), rfl, fun k bv x h1 h2 => ?_, fun i j bi bj g h1 h2 hij h3 h4 => ?_⟩
        · match k, h1, h2 with
          | 0, h1, h2 => cases h1; cases h2; exact World.ownsRow_nil _ _ _ _
          | 1, h1, h2 => cases h1; cases h2; exact World.ownsRow_nil _ _ _ _
          | 2, h1, h2 =>
            cases h1
            cases h2
            rw [devCells_length]
            exact ownsRow_chg (ownsRow_ext ho (Chg.alloc (Ext.refl _) _)) hca (fun j hj e => by have := (hl j hj).1; omega)
          | 3, h1, h2 => cases h1; cases h2; exact World.ownsRow_nil _ _ _ _
          | k + 4, h1, h2 => cases h1
        · have hi : i = 2 := by
            match i, h1 with
            | 0, h1 => cases h1; cases h3
            | 1, h1 => cases h1; cases h3
            | 2, h1 => rfl
            | 3, h1 => cases h1; cases h3
            | i + 4, h1 => cases h1
          have hj : j = 2 := by
            match j, h2 with
            | 0, h2 => cases h2; cases h4
            | 1, h2 => cases h2; cases h4
            | 2, h2 => rfl
            | 3, h2 => cases h2; cases h4
            | j + 4, h2 => cases h2
          exact hij (hi.trans hj.symm)
      · exact ((unhide HR).2.2.trans ((unhide HP).2.alloc _)).trans' hca (fun _ _ h => h) (fun i hi e => by omega)
end Go.Proofs.YtplkplegjoabgaaGreatDoor


namespace Go.Proofs.YtplkplegjoabgaaGreatDoor.Pv
open Go.RowKit
theorem dgOf_sl {C : Ctx} {c : PC} {xs : List Value} {p : Prop} {l : List (List UInt8)} (h : dgOf c = some (p, l)) (hp : p) (hr : R C c xs) : R C (.sl 16 l.length (digF l)) xs ∧ D16 l := by
  unfold dgOf at h
  split at h
  · rename_i len f
    cases h
    have h2 := hr
    cases h2 with
    | sl hr2 hb he =>
      have hD := (drow_cells hr2.1 he hp).2
      refine ⟨?_, hD⟩
      rw [rowD_length]
      refine hr.sl_ext (fun i hi => ?_)
      unfold digF
      rw [rowD, getD_map_range len i _ hi]
      have := hp i hi
      have h3 := (he i hi)
      revert this
      generalize f i = c
      intro this
      unfold isDig at this
      split at this
      · rw [beqT this]; rfl
      · cases this
  · cases h
    cases hr
    exact ⟨.sl (Reads.nil _ _) (fun g hg => by simp [Value.ownBlock] at hg) (fun i hi => by simp at hi), D16.nil⟩
  · cases h
structure R4 where
  a : Int
  b : Int
  c : Int
  l : List (List UInt8)
  deriving Inhabited
structure R4Ok (s : R4) : Prop where
  a : i64P s.a
  b : i64P s.b
  c : i64P s.c
  l : D16 s.l
end Go.Proofs.YtplkplegjoabgaaGreatDoor.Pv


namespace Go.Proofs.YtplkplegjoabgaaGreatDoor.Pv
open Go.RowKit
def byOf : PC → Option (Prop × List UInt8)
  | .sl 1 n f => some (IsRow n f, rowB n f)
  | .lit (.slice none 0 0) => some (True, [])
  | _ => none
theorem byOf_sl {C : Ctx} {c : PC} {xs : List Value} {p : Prop} {l : List UInt8} (h : byOf c = some (p, l)) (hp : p) (hr : R C c xs) : R C (.sl 1 l.length (byF l)) xs := by
  unfold byOf at h
  split at h
  · rename_i n f
    cases h
    have hl : (rowB n f).length = n := by simp [rowB]
    rw [hl]
    exact hr.sl_ext (fun j hj => byF_row hp j hj)
  · cases h
    cases hr
    exact .sl (Reads.nil _ _) (fun g hg => by cases hg) (fun i hi => absurd hi (Nat.not_lt_zero i))
  · cases h
theorem u8F_int (l : List UInt8) : (List.range l.length).map (fun j => u8Of (byF l j)) = intB l := by
  apply List.ext_getElem (by simp [intB])
  intro i h1 h2
  simp only [List.getElem_map, List.getElem_range, intB, byF, u8Of]
  have hi : i < l.length := by simpa [intB] using h2
  rw [List.getD_eq_getElem?_getD, List.getElem?_eq_getElem hi]
  rfl
theorem by_reads {C : Ctx} {v : Value} {l : List UInt8} (h : R C (.sl 1 l.length (byF l)) [v]) : Reads C.w 1 v (intB l).length ((intB l).map (Value.int .u8)) := by
  have := bank_reads h (fun j hj => rfl)
  rwa [u8F_int] at this
theorem intB_u8 (l : List UInt8) : ∀ x ∈ intB l, isU8 x := by
  intro x hx
  obtain ⟨b, _, rfl⟩ := List.mem_map.1 hx
  have := b.toNat_lt
  exact ⟨by omega, by omega⟩
def devPC (l : List UInt8) (s : Bool) : PV := .w (.agg (hwPC (bk4 (devCells (intB l) s)) z16s))
def devG : List PV → Option (Prop × PV)
  | [.w (.one c), .w (.one (.lit (.bool s)))] => (match byOf c with
    | some (p, l) => some (p, devPC l s)
    | none => none)
  | _ => none
theorem dev_spec : SpecOk Tryz.prog ShaMem 15 (funSpec true devG) := by
  refine funSpec_ok (call_enters Tryz.func15 (by kernel_rfl) rfl) (fun xs p r hg hp w ok0 vs hI hv => ?_)
  unfold devG at hg
  split at hg
  · rename_i c s
    cases hq : byOf c with
    | none => rw [hq] at hg; cases hg
    | some q =>
      obtain ⟨p', l⟩ := q
      rw [hq] at hg
      cases hg
      match vs, hv with
      | [v1, v2], ⟨k1, k2, _⟩ =>
        obtain rfl := k2.lit_inv
        refine (device_any (intB l) v1 s w (by_reads (byOf_sl hq hp k1.inv)) (intB_u8 l)).mono ?_
        rintro e w' ⟨fv, rfl, hN, hE⟩
        refine ⟨_, rfl, hE, .w (.agg ?_)⟩
        exact hw_rl (b := bk4 (devCells (intB l) s)) (r := z16s) (fuses_new (ok := fun b => (true = false ∧ ok0 b) ∨ w.heap.size ≤ b) hN (fun b hb => .inr hb)) rfl
  · cases hg
def runG : List PV → Option (Prop × PV)
  | [.w (.agg [.sl 1 n f, .lit (.slice none 0 0), .bs 16 z]), .w (.agg [.bs 16 seed]), .w (.one (.lit (.int .i64 h))), .w (.agg [.bs 16 m]), .w (.one c)] => (match byOf c with
    | some (p, F) => some (p ∧ IsBkRow n f ∧ rowBk n f = bk4 ((rowBk n f).getD 2 []) ∧ ((rowBk n f).getD 2 []).length = 48 ∧ z = z16s ∧ i64P h, runPV (runS seed m h F ((rowBk n f).getD 2 [])))
    | none => none)
  | _ => none
theorem run_spec : SpecOk Tryz.prog ShaMem 16 (funSpec false runG) := by
  refine funSpec_ok (call_enters Tryz.func16 (by kernel_rfl) rfl) (fun xs p r hg hp w ok0 vs hI hv => ?_)
  unfold runG at hg
  split at hg
  · rename_i n f z seed h m c
    cases hq : byOf c with
    | none => rw [hq] at hg; cases hg
    | some q =>
      obtain ⟨p', F⟩ := q
      rw [hq] at hg
      cases hg
      obtain ⟨h1, h2, h3, h4, rfl, h6⟩ := hp
      match vs, hv with
      | [v1, v2, v3, v4, v5], ⟨k1, k2, k3, k4, k5, _⟩ =>
        refine run_fun seed m h h6 F _ h4 w ok0 [v1, v2, v3, v4, v5] hI ⟨?_, k2, k3, k4, .w (.one (byOf_sl hq h1 k5.inv)), trivial⟩
        rw [← h3]
        obtain ⟨fv, rfl, hf, hr16⟩ := hw_split k1
        exact .w (.agg (hw_rl (bankF_row h2 hf) hr16))
  · cases hg
def eqdSt (x y : List (List UInt8)) (k : Nat) : St := ⟨[(0, none, pv1 (.sl 16 x.length (digF x))), (1, none, pv1 (.sl 16 y.length (digF y))), (5, none, pvI k)], []⟩
set_option maxRecDepth 100000 in
theorem digs5_fun (x y : List (List UInt8)) (hl : x.length < 9223372036854775807) : FunOk Tryz.prog ShaMem 46 true [pv1 (.sl 16 x.length (digF x)), pv1 (.sl 16 y.length (digF y))] (pvB (x == y)) := by
  have M := noM (I := ShaMem)
  refine funOk_of Tryz.func46 rfl rfl sha_ext (fun A hS hn hI => ?_)
  refine tri_reg M hI hn (outs := ?_) (s' := ?_) ?_ ?_ ?_ ?_
  rotate_left 2
  · rfl
  · kernel_rfl
  · simp
  refine tri_seq ?_
  refine tri_reg M hI hn (outs := ?_) (s' := ?_) ?_ ?_ ?_ ?_
  rotate_left 2
  · rfl
  · kernel_rfl
  · simp
  refine tri_cond (b := ?_) ?_ (fun hc => ?_) (fun hc => ?_)
  rotate_left 1
  · rfl
  · refine tri_reg M hI hn (outs := ?_) (s' := ?_) ?_ ?_ ?_ ?_
    rotate_left 2
    · rfl
    · kernel_rfl
    · simp
    refine tri_ret (fun a w hg => ⟨.inr rfl, _, ?_, hg⟩)
    refine retTo_cold (out := ?_) ?_ ?_ ?_ ?_ ?_
    rotate_left 1
    · rfl
    · simp
    · rfl
    · rfl
    have hne : ¬ x = y := fun e => by subst e; simp at hc
    rw [beq_eq_false_iff_ne.2 hne]
  · have hlen : x.length = y.length := by
      have : (x.length : Int) = y.length := by simpa using hc
      omega
    refine tri_skip ?_
    change Tri _ _ _ _ _
    refine tri_seq ?_
    refine tri_reg M hI hn (outs := ?_) (s' := ?_) ?_ ?_ ?_ ?_
    rotate_left 2
    · rfl
    · kernel_rfl
    · simp
    refine tri_block ?_
    refine tri_conv (s' := eqdSt x y 0) (fun a w hg => (hg.reset (kT := [0, 1, 5]) (kO := []) (by rfl) (by simp)).same ?_ ?_) ?_
    · exact .cons rfl (.cons rfl (.cons rfl .nil))
    · exact .nil
    refine tri_loop x.length (fun k t => t = eqdSt x y k ∧ ∀ i, i < k → x.getD i [] = y.getD i []) 0 ⟨rfl, fun i hi => by omega⟩ (by omega) (fun k t hJ hk => ?_)
    obtain ⟨rfl, hJ⟩ := hJ
    refine tri_seq ?_
    refine tri_reg M hI hn (outs := ?_) (s' := ?_) ?_ ?_ ?_ ?_
    rotate_left 2
    · rfl
    · kernel_rfl
    · simp
    refine tri_cond (b := ?_) ?_ (fun hc => ?_) (fun hc => ?_)
    rotate_left 1
    · rfl
    · have hk2 : k < x.length := by simpa using hc
      refine tri_skip ?_
      change Tri _ _ _ _ _
      refine tri_seq ?_
      refine tri_block ?_
      refine tri_reg M hI hn (outs := ?_) (s' := ?_) ?_ ?_ ?_ ?_
      rotate_left 2
      · rfl
      · kernel_rfl
      · simp
        exact ⟨hk2, by omega⟩
      refine tri_cond (b := ?_) ?_ (fun hc => ?_) (fun hc => ?_)
      rotate_left 1
      · rfl
      · refine tri_reg M hI hn (outs := ?_) (s' := ?_) ?_ ?_ ?_ ?_
        rotate_left 2
        · rfl
        · kernel_rfl
        · simp
        refine tri_ret (fun a w hg => ⟨.inr rfl, _, ?_, hg⟩)
        refine retTo_cold (out := ?_) ?_ ?_ ?_ ?_ ?_
        rotate_left 1
        · rfl
        · simp
        · rfl
        · rfl
        have hc2 : (!(x.getD k [] == y.getD k [])) = true := hc
        have hne : ¬ x = y := fun e => by rw [e] at hc2; simp at hc2
        rw [beq_eq_false_iff_ne.2 hne]
      · have hc2 : (!(x.getD k [] == y.getD k [])) = false := hc
        have hk3 : x.getD k [] = y.getD k [] := by simpa only [Bool.not_eq_false', beq_iff_eq] using hc2
        clear hc hc2
        refine tri_skip ?_
        change Tri _ _ _ _ _
        refine tri_region M hI hn (outs := ?_) (s' := ?_) ?_ ?_ ?_ ?_
        rotate_left 2
        · rfl
        · kernel_rfl
        · simp
        intro a w hg
        refine ⟨k + 1, _, by omega, by omega, ⟨rfl, fun i hi => ?_⟩, (hg.reset (kT := [0, 1, 5]) (kO := []) (by rfl) (by simp)).same ?_ ?_⟩
        · rcases Nat.lt_or_ge i k with h | h
          · exact hJ i h
          · obtain rfl : i = k := by omega
            exact hk3
        · exact .cons rfl (.cons rfl (.cons (by rw [wrap_nat k (by omega)]) .nil))
        · exact .nil
    · have hkk : k = x.length := by
        have : ¬ k < x.length := by simpa using hc
        omega
      subst hkk
      have he : x = y := by
        apply List.ext_getElem hlen
        intro i h1 h2
        have := hJ i h1
        rwa [List.getD_eq_getElem?_getD, List.getD_eq_getElem?_getD, List.getElem?_eq_getElem h1, List.getElem?_eq_getElem h2] at this
      refine tri_exit ?_
      change Tri _ _ _ _ _
      refine tri_reg M hI hn (outs := ?_) (s' := ?_) ?_ ?_ ?_ ?_
      rotate_left 2
      · rfl
      · kernel_rfl
      · simp
      refine tri_ret (fun a w hg => ⟨.inr rfl, _, ?_, hg⟩)
      refine retTo_cold (out := ?_) ?_ ?_ ?_ ?_ ?_
      rotate_left 1
      · rfl
      · simp
      · rfl
      · rfl
      rw [beq_iff_eq.2 he]def spDigs5 : Spec := funSpec true fun xs => match xs with
  | [.w (.one c), .w (.one d)] => (match dgOf c, dgOf d with
    | some (p, x), some (q, y) => some (p ∧ q ∧ x.length < 9223372036854775807, pvB (x == y))
    | _, _ => none)
  | _ => none
theorem digs5_ok : SpecOk Tryz.prog ShaMem 46 spDigs5 := by
  refine funSpec_ok (call_enters Tryz.func46 (by kernel_rfl) rfl) (fun xs p r hg hp => ?_)
  split at hg
  · rename_i c d
    split at hg
    · rename_i p1 x q y e1 e2
      cases hg
      intro w ok0 vs hI hV
      match vs, hV with
      | [u, v], ⟨k1, k2, _⟩ =>
        exact digs5_fun x y hp.2.2 w ok0 [u, v] hI ⟨.w (.one (dgOf_sl e1 hp.1 k1.inv).1), .w (.one (dgOf_sl e2 hp.2.1 k2.inv).1), trivial⟩
    · cases hg
  · cases hg
end Go.Proofs.YtplkplegjoabgaaGreatDoor.Pv


namespace Go.Proofs.YtplkplegjoabgaaGreatDoor.Pv
open Go.RowKit
def sigEqB (s t : Sig) : Bool := (s.index == t.index) && (s.chain == t.chain) && (s.path == t.path)
def s5L : List (Nat × Spec) := [(46, spDigs5)]
theorem s5_ok : ∀ p ∈ s5L, SpecOk Tryz.prog ShaMem p.1 p.2 := by
  intro p hp
  simp only [s5L, List.mem_cons, List.not_mem_nil, or_false] at hp
  subst hp
  exact digs5_ok
theorem s5M : Mach Tryz.prog ShaMem (find s5L) := ⟨specs_of s5_ok, mixed_⟩
set_option maxRecDepth 100000 in
theorem same5_fun (s t : Sig) (h1 : s.chain.length < 9223372036854775807) (h2 : s.path.length < 9223372036854775807) : FunOk Tryz.prog ShaMem 21 true [.w (.agg (sigPC s)), .w (.agg (sigPC t))] (pvB (sigEqB s t)) := by
  have M := s5M
  obtain ⟨i, c, q⟩ := s
  obtain ⟨i', c', q'⟩ := t
  refine funOk_of Tryz.func21 rfl rfl sha_ext (fun A hS hn hI => ?_)
  refine tri_reg M hI hn (outs := ?_) (s' := ?_) ?_ ?_ ?_ ?_
  rotate_left 2
  · rfl
  · kernel_rfl
  · simp
  refine tri_reg M hI hn (outs := ?_) (s' := ?_) ?_ ?_ ?_ ?_
  rotate_left 2
  · rfl
  · kernel_rfl
  · simp
    exact ⟨fun _ => h1, fun _ _ => h2⟩
  refine tri_ret (fun a w hg => ⟨.inr rfl, _, ?_, hg⟩)
  refine retTo_cold (out := ?_) ?_ ?_ ?_ ?_ ?_
  rotate_left 1
  · rfl
  · simp
  · rfl
  · rfl
  refine congrArg pvB ?_
  simp only [sigEqB, rowD_digF]
  cases (i == i') <;> cases (c == c') <;> cases (q == q') <;> rfl
def lens5 (p1 p2 p3 p4 : Prop) (l1 l2 : List (List UInt8)) : Prop := p1 ∧ p2 ∧ p3 ∧ p4 ∧ l1.length < 9223372036854775807 ∧ l2.length < 9223372036854775807
def sig5G : List PV → Option (Prop × PV)
  | [.w (.agg [.lit (.int .i64 i), c1, q1]), .w (.agg [.lit (.int .i64 j), c2, q2])] => (match dgOf c1, dgOf q1, dgOf c2, dgOf q2 with
    | some (p1, l1), some (p2, l2), some (p3, l3), some (p4, l4) => some (lens5 p1 p2 p3 p4 l1 l2, pvB (sigEqB ⟨i, l1, l2⟩ ⟨j, l3, l4⟩))
    | _, _, _, _ => none)
  | _ => none
theorem sig_rl {C : Ctx} {i : Int} {c q : PC} {p1 p2 : Prop} {l1 l2 : List (List UInt8)} {v : Value} (h1 : dgOf c = some (p1, l1)) (h2 : dgOf q = some (p2, l2)) (hp1 : p1) (hp2 : p2) (h : RV C (.w (.agg [.lit (.int .i64 i), c, q])) v) : RV C (.w (.agg (sigPC ⟨i, l1, l2⟩))) v := by
  cases h with
  | w h => cases h with
    | agg h =>
      refine .w (.agg ?_)
      generalize Array.toList _ = xs at h ⊢
      cases h with
      | cons k1 h => cases h with
        | cons k2 h => cases h with
          | cons k3 h => cases h; exact .cons k1 (.cons (dgOf_sl h1 hp1 k2).1 (.cons (dgOf_sl h2 hp2 k3).1 .nil))
theorem same5_spec : SpecOk Tryz.prog ShaMem 21 (funSpec true sig5G) := by
  refine funSpec_ok (call_enters Tryz.func21 (by kernel_rfl) rfl) (fun xs p r hg hp w ok0 vs hI hv => ?_)
  unfold sig5G at hg
  split at hg
  · split at hg
    · rename_i e1 e2 e3 e4
      cases hg
      obtain ⟨g1, g2, g3, g4, g5, g6⟩ := hp
      match vs, hv with
      | [v1, v2], ⟨k1, k2, _⟩ => exact same5_fun _ _ g5 g6 w ok0 [v1, v2] hI ⟨sig_rl e1 e2 g1 g2 k1, sig_rl e3 e4 g3 g4 k2, trivial⟩
    · cases hg
  · cases hg
def outEqB (x y : Sig × Int) : Bool := sigEqB x.1 y.1 && (x.2 == y.2)
def s6L : List (Nat × Spec) := [(21, funSpec true sig5G)]
theorem s6_ok : ∀ p ∈ s6L, SpecOk Tryz.prog ShaMem p.1 p.2 := by
  intro p hp
  simp only [s6L, List.mem_cons, List.not_mem_nil, or_false] at hp
  subst hp
  exact same5_spec
theorem s6M : Mach Tryz.prog ShaMem (find s6L) := ⟨specs_of s6_ok, mixed_⟩
set_option maxRecDepth 100000 in
theorem same26_fun (x y : Sig × Int) (h1 : x.1.chain.length < 9223372036854775807) (h2 : x.1.path.length < 9223372036854775807) : FunOk Tryz.prog ShaMem 12 true [.w (.agg (sgC x)), .w (.agg (sgC y))] (pvB (outEqB x y)) := by
  have M := s6M
  obtain ⟨⟨i, c, q⟩, e⟩ := x
  obtain ⟨⟨i', c', q'⟩, e'⟩ := y
  refine funOk_of Tryz.func12 rfl rfl sha_ext (fun A hS hn hI => ?_)
  refine tri_reg M hI hn (outs := ?_) (s' := ?_) ?_ ?_ ?_ ?_
  rotate_left 2
  · rfl
  · kernel_rfl
  · simp
  refine tri_reg M hI hn (outs := ?_) (s' := ?_) ?_ ?_ ?_ ?_
  rotate_left 2
  · rfl
  · kernel_rfl
  · simp
    refine ⟨trivial, trivial, trivial, trivial, h1, h2⟩
  refine tri_reg M hI hn (outs := ?_) (s' := ?_) ?_ ?_ ?_ ?_
  rotate_left 2
  · rfl
  · kernel_rfl
  · simp
  refine tri_ret (fun a w hg => ⟨.inr rfl, _, ?_, hg⟩)
  refine retTo_cold (out := ?_) ?_ ?_ ?_ ?_ ?_
  rotate_left 1
  · rfl
  · simp
  · rfl
  · rfl
  refine congrArg pvB ?_
  simp only [outEqB, rowD_digF]
  cases sigEqB ⟨i, c, q⟩ ⟨i', c', q'⟩ <;> cases (e == e') <;> rfl
def out26G : List PV → Option (Prop × PV)
  | [.w (.agg [.lit (.int .i64 i), c1, q1, .lit (.int .i64 e)]), .w (.agg [.lit (.int .i64 j), c2, q2, .lit (.int .i64 f)])] => (match dgOf c1, dgOf q1, dgOf c2, dgOf q2 with
    | some (p1, l1), some (p2, l2), some (p3, l3), some (p4, l4) => some (lens5 p1 p2 p3 p4 l1 l2, pvB (outEqB (⟨i, l1, l2⟩, e) (⟨j, l3, l4⟩, f)))
    | _, _, _, _ => none)
  | _ => none
theorem out_rl {C : Ctx} {i e : Int} {c q : PC} {p1 p2 : Prop} {l1 l2 : List (List UInt8)} {v : Value} (h1 : dgOf c = some (p1, l1)) (h2 : dgOf q = some (p2, l2)) (hp1 : p1) (hp2 : p2) (h : RV C (.w (.agg [.lit (.int .i64 i), c, q, .lit (.int .i64 e)])) v) : RV C (.w (.agg (sgC (⟨i, l1, l2⟩, e)))) v := by
  cases h with
  | w h => cases h with
    | agg h =>
      refine .w (.agg ?_)
      generalize Array.toList _ = xs at h ⊢
      cases h with
      | cons k1 h => cases h with
        | cons k2 h => cases h with
          | cons k3 h => cases h with
            | cons k4 h => cases h; exact .cons k1 (.cons (dgOf_sl h1 hp1 k2).1 (.cons (dgOf_sl h2 hp2 k3).1 (.cons k4 .nil)))
theorem same26_spec : SpecOk Tryz.prog ShaMem 12 (funSpec true out26G) := by
  refine funSpec_ok (call_enters Tryz.func12 (by kernel_rfl) rfl) (fun xs p r hg hp w ok0 vs hI hv => ?_)
  unfold out26G at hg
  split at hg
  · split at hg
    · rename_i e1 e2 e3 e4
      cases hg
      obtain ⟨g1, g2, g3, g4, g5, g6⟩ := hp
      match vs, hv with
      | [v1, v2], ⟨k1, k2, _⟩ => exact same26_fun _ _ g5 g6 w ok0 [v1, v2] hI ⟨out_rl e1 e2 g1 g2 k1, out_rl e3 e4 g3 g4 k2, trivial⟩
    · cases hg
  · cases hg
end Go.Proofs.YtplkplegjoabgaaGreatDoor.Pv


namespace Go.Proofs.YtplkplegjoabgaaGreatDoor.Pv
open Go.RowKit
theorem ends_congr8 (f g : Nat → List UInt8) : ∀ n, (∀ k, k < n → f k = g k) → endsS f n = endsS g n
  | 0, _ => rfl
  | n + 1, h => by rw [endsS_step, endsS_step, ends_congr8 f g n fun k hk => h k (by omega), h n (by omega)]
theorem recover_sign8 (seed : List UInt8) (index : Int) (m : List UInt8) : recoverS m (chainAt (signS seed index m 68)) = publicS seed index := by
  rw [← wots_verifies seed index m]
  unfold recoverS keyOf
  rw [ends_congr8 _ _ 68 fun k hk => ?_]
  have : chainAt (signS seed index m 68) k = signAt seed index m k := by
    unfold chainAt signS
    rw [List.getD_eq_getElem?_getD, List.getElem?_map, List.getElem?_range hk]
    rfl
  rw [this]
theorem own_verifies8 (seed msg : List UInt8) (n i : Nat) (hi : i < n) : verifyS (rootS (leavesS seed n)) n i (recoverS msg (chainAt (signS seed (i : Int) msg 68))) (proveS (leavesS seed n) i) = true := by
  rw [recover_sign8]
  have := prove_verifies (leavesS seed n) i _ (leavesS_get seed n i hi)
  rwa [leavesS_length] at this
theorem sgnT_yes (seed m : List UInt8) (h i : Nat) (hh : h ≤ 4) (hi : i < 2 ^ h) : sgnT seed (h : Int) (i : Int) m = (⟨(i : Int), signS seed (i : Int) m 68, proveS (leavesS seed (2 ^ h)) i⟩, 0) := by
  unfold sgnT
  rw [if_neg (by omega)]
  simp only [Int.toNat_natCast]
  rw [if_pos hi]
theorem ver_own8 (seed m : List UInt8) (h i : Nat) (hh : h ≤ 4) (hi : i < 2 ^ h) : verS (rootT seed (h : Int)).1 (h : Int) m (sgnT seed (h : Int) (i : Int) m).1 = true := by
  have e1 : rootT seed (h : Int) = (rootS (leavesS seed (2 ^ h)), 0) := by
    unfold rootT
    rw [if_pos ⟨by omega, by omega⟩, Int.toNat_natCast]
  rw [e1, sgnT_yes seed m h i hh hi]
  dsimp only
  rw [verS_yes hh rfl hi (signS_length seed i m 68)]
  exact own_verifies8 seed m (2 ^ h) i hi
def s1 : List UInt8 := 1 :: List.replicate 15 0
def m2 : List UInt8 := 2 :: List.replicate 15 0
def c0 : List Int := devCells [] true
theorem c0_eq : c0 = List.replicate 48 0 := by decide +kernel
theorem san_exec : exec [] (Prg.signI 0) (List.replicate 48 0) 0 = (some (0, 0), (exec [] (Prg.signI 0) (List.replicate 48 0) 0).2.1, 12) := by kernel_rfl
theorem san_again : (exec [] (Prg.signI 0) (exec [] (Prg.signI 0) (List.replicate 48 0) 0).2.1 0).1 = some (1, 17) ∧ (exec [] (Prg.signI 0) (List.replicate 48 0) 0).2.1.length = 48 := by decide +kernel
structure SanS (r1 r2 : RunO) (n1 : Acc × (Sig × Int) × Bool) (rt : List UInt8) : Prop where
  d1 : r1.done = true
  k1 : r1.many = 12
  e1 : r1.out.2 = 0
  i1 : r1.out.1.index = 0
  v1 : verS rt 0 m2 r1.out.1 = true
  p1 : r1.out.1.path.length ≤ 1000
  l1 : r1.cells.length = 48
  d2 : r2.done = true
  e2 : r2.out.2 = 17
  c2 : r2.out.1.chain.length = 0
  d3 : n1.2.2 = true
  e3 : n1.2.1.2 = 1
theorem sgnT_small (seed m : List UInt8) (h i : Int) : (sgnT seed h i m).1.chain.length ≤ 68 ∧ (sgnT seed h i m).1.path.length ≤ 16 := by
  unfold sgnT
  split
  · exact ⟨Nat.zero_le _, Nat.zero_le _⟩
  · rename_i ho
    split
    · refine ⟨by dsimp only; rw [signS_length]; exact Nat.le_refl _, ?_⟩
      dsimp only
      have h4 : 0 ≤ h ∧ h ≤ 4 := by omega
      have := prove_le _ (leavesS seed (2 ^ h.toNat)) i.toNat (Nat.le_refl _)
      rw [leavesS_length] at this
      have h16 : 2 ^ h.toNat ≤ 2 ^ 4 := Nat.pow_le_pow_right (by omega) (by omega)
      omega
    · exact ⟨Nat.zero_le _, Nat.zero_le _⟩
theorem sgO_small (seed m : List UInt8) (h : Int) (p : Nat × Int) : (sgO seed h m p).1.chain.length ≤ 68 ∧ (sgO seed h m p).1.path.length ≤ 16 := by
  unfold sgO
  split
  · exact sgnT_small _ _ _ _
  · exact ⟨Nat.zero_le _, Nat.zero_le _⟩
theorem runS_small (seed m : List UInt8) (h : Int) (F : List UInt8) (c : List Int) : (runS seed m h F c).out.1.chain.length ≤ 68 ∧ (runS seed m h F c).out.1.path.length ≤ 16 := by
  unfold runS runO
  split
  · exact sgO_small _ _ _ _
  · exact ⟨Nat.zero_le _, Nat.zero_le _⟩
theorem sanS : SanS (runS s1 m2 0 [] c0) (runS s1 m2 0 [] (runS s1 m2 0 [] c0).cells) (nextR s1 (List.replicate 16 0) 5 []) (rootT s1 0).1 := by
  obtain ⟨C, hC⟩ : ∃ C, (exec [] (Prg.signI 0) (List.replicate 48 0) 0).2.1 = C := ⟨_, rfl⟩
  obtain ⟨ha, hl⟩ := san_again
  have he := san_exec
  rw [hC] at ha hl he
  have e1 : runS s1 m2 0 [] c0 = ⟨C, (sgnT s1 0 0 m2), true, 12⟩ := by
    unfold runS
    rw [c0_eq, show intB [] = [] from rfl, he]
    rfl
  obtain ⟨q, hq⟩ : ∃ q, exec [] (Prg.signI 0) C 0 = q := ⟨_, rfl⟩
  obtain ⟨q1, q2, q3⟩ := q
  rw [hq] at ha
  obtain rfl : q1 = some (1, 17) := ha
  have e2 : runS s1 m2 0 [] C = ⟨q2, (⟨0, [], []⟩, 17), true, q3⟩ := by
    unfold runS
    rw [show intB [] = [] from rfl, hq]
    rfl
  have e3 := sgnT_yes s1 m2 0 0 (by omega) (by decide)
  have hv := ver_own8 s1 m2 0 0 (by omega) (by decide)
  have hp := (sgnT_small s1 m2 0 0).2
  rw [e1, e2]
  refine ⟨rfl, rfl, ?_, ?_, hv, Nat.le_trans hp (by omega), hl, rfl, rfl, rfl, rfl, rfl⟩
  · show (sgnT s1 0 0 m2).2 = 0
    exact congrArg (·.2) e3
  · show (sgnT s1 0 0 m2).1.index = 0
    exact congrArg (·.1.index) e3
def saL : List (Nat × Spec) := [(14, funSpec true rootG), (15, funSpec true devG), (16, funSpec false runG), (10, funSpec true nextG), (17, funSpec true verG)]
theorem sa_ok : ∀ p ∈ saL, SpecOk Tryz.prog ShaMem p.1 p.2 := by
  intro p hp
  simp only [saL, List.mem_cons, List.not_mem_nil, or_false] at hp
  rcases hp with rfl | rfl | rfl | rfl | rfl
  · exact rtroot_spec
  · exact dev_spec
  · exact run_spec
  · exact next_spec
  · exact rtver_spec
theorem saM : Mach Tryz.prog ShaMem (find saL) := ⟨specs_of sa_ok, mixed_⟩
def saA (rt : List UInt8) (r1 : RunO) : St :=
  ⟨[(1, none, pv1 (.pt 1001 0 0)), (2, none, pv1 (.pt 2005 0 0)), (4, none, pv1 (.pt 3010 0 0)), (5, none, pv1 (.pt 3011 0 0)), (6, none, pvB r1.done), (7, none, pvI r1.many), (8, none, pvB true)],
   [(1001, none, 0, .box 23 [.bs 16 s1]), (2005, none, 0, .box 23 [.bs 16 rt]), (3010, none, 0, .box 53 (hwPC (bk4 r1.cells) z16s)), (3011, none, 0, .box 35 (sgC r1.out))]⟩
def saB (rt : List UInt8) (r1 r2 : RunO) : St :=
  ⟨(10, none, pv1 (.pt 4011 0 0)) :: (11, none, pvB r2.done) :: (13, none, pvB true) :: (saA rt r1).t, (4011, none, 0, .box 35 (sgC r2.out)) :: (saA rt r1).o⟩
def saC (rt : List UInt8) (r1 r2 : RunO) (n1 : Acc × (Sig × Int) × Bool) : St :=
  ⟨(15, none, pv1 (.pt 5008 0 0)) :: (16, none, pvB n1.2.2) :: (saB rt r1 r2).t, (5008, none, 0, .box 35 (sgC n1.2.1)) :: (saB rt r1 r2).o⟩
set_option maxRecDepth 100000 in
set_option maxHeartbeats 2000000 in
theorem san26_fun : FunOk Tryz.prog ShaMem 9 true [] (pvB true) := by
  have M := saM
  have hq := sanS
  refine funOk_of Tryz.func9 rfl rfl sha_ext (fun A hS hn hI => ?_)
  obtain ⟨rt, hrt⟩ : ∃ r, (rootT s1 0).1 = r := ⟨_, rfl⟩
  obtain ⟨r1, h1⟩ : ∃ r, runS s1 m2 0 [] c0 = r := ⟨_, rfl⟩
  rw [hrt, h1] at hq
  obtain ⟨r2, h2⟩ : ∃ r, runS s1 m2 0 [] r1.cells = r := ⟨_, rfl⟩
  obtain ⟨n1, h3⟩ : ∃ r, nextR s1 (List.replicate 16 0) 5 [] = r := ⟨_, rfl⟩
  rw [h2, h3] at hq
  have hrb : ∀ c, (rowBk (bk4 c).length (bankF (bk4 c))).getD 2 [] = c := fun c => by rw [rowBk_bankF]; rfl
  have hi0 : i64P 0 := by unfold i64P; decide
  have hcl : c0.length = 48 := devCells_length [] true
  refine tri_reg M hI hn (outs := ?_) (s' := ?_) ?_ ?_ ?_ ?_
  rotate_left 2
  · rfl
  · kernel_rfl
  · simp
  refine tri_reg M hI hn (outs := ?_) (s' := ?_) ?_ ?_ ?_ ?_
  rotate_left 2
  · rfl
  · kernel_rfl
  · simp
  refine tri_reg M hI hn (outs := ?_) (s' := ?_) ?_ ?_ ?_ ?_
  rotate_left 2
  · rfl
  · kernel_rfl
  · simp
  refine tri_reg M hI hn (outs := ?_) (s' := ?_) ?_ ?_ ?_ ?_
  rotate_left 2
  · rfl
  · kernel_rfl
  · simp
    exact ⟨rfl, hcl, hi0⟩
  refine tri_conv (s' := saA rt r1) (fun a w hg => (hg.reset (kT := [1, 2, 4, 5, 6, 7, 8]) (kO := [1001, 2005, 3010, 3011]) (by rfl) (by simp)).same ?_ ?_) ?_
  · refine .cons rfl (.cons rfl (.cons rfl (.cons rfl (.cons ?_ (.cons ?_ (.cons rfl .nil))))))
    · show pvB (runS s1 m2 0 [] ((rowBk (bk4 c0).length (bankF (bk4 c0))).getD 2 [])).done = _
      rw [hrb, h1]
    · show pvI (runS s1 m2 0 [] ((rowBk (bk4 c0).length (bankF (bk4 c0))).getD 2 [])).many = _
      rw [hrb, h1]
  · refine .cons (.box rfl) (.cons (.box ?_) (.cons (.box ?_) (.cons (.box ?_) .nil)))
    · show [PC.bs 16 (rootT s1 0).1] = _
      rw [hrt]
    · show hwPC (bk4 (runS s1 m2 0 [] ((rowBk (bk4 c0).length (bankF (bk4 c0))).getD 2 [])).cells) z16s = _
      rw [hrb, h1]
    · show sgC (runS s1 m2 0 [] ((rowBk (bk4 c0).length (bankF (bk4 c0))).getD 2 [])).out = _
      rw [hrb, h1]
  refine tri_reg M hI hn (outs := ?_) (s' := ?_) ?_ ?_ ?_ ?_
  rotate_left 2
  · rfl
  · kernel_rfl
  · simp
    exact ⟨rfl, hq.l1, hi0⟩
  refine tri_conv (s' := saB rt r1 r2) (fun a w hg => (hg.reset (kT := [10, 11, 13, 1, 2, 4, 5, 6, 7, 8]) (kO := [4011, 1001, 2005, 3010, 3011]) (by rfl) (by simp)).same ?_ ?_) ?_
  · refine .cons rfl (.cons ?_ (.cons rfl (rest9 rfl)))
    show pvB (runS s1 m2 0 [] ((rowBk (bk4 r1.cells).length (bankF (bk4 r1.cells))).getD 2 [])).done = _
    rw [hrb, h2]
  · refine .cons (.box ?_) (restW rfl)
    show sgC (runS s1 m2 0 [] ((rowBk (bk4 r1.cells).length (bankF (bk4 r1.cells))).getD 2 [])).out = _
    rw [hrb, h2]
  refine tri_reg M hI hn (outs := ?_) (s' := ?_) ?_ ?_ ?_ ?_
  rotate_left 2
  · rfl
  · kernel_rfl
  · simp
  refine tri_conv (s' := saC rt r1 r2 n1) (fun a w hg => (hg.reset (kT := [15, 16, 10, 11, 13, 1, 2, 4, 5, 6, 7, 8]) (kO := [5008, 4011, 1001, 2005, 3010, 3011]) (by rfl) (by simp)).same ?_ ?_) ?_
  · refine .cons rfl (.cons ?_ (rest9 rfl))
    show pvB (nextR s1 (List.replicate 16 0) 5 []).2.2 = _
    rw [h3]
  · refine .cons (.box ?_) (restW rfl)
    show sgC (nextR s1 (List.replicate 16 0) 5 []).2.1 = _
    rw [h3]
  obtain ⟨q1, q2, q3, q4, q5, q6, q7, q8, q9, q10, q11, q12⟩ := hq
  obtain ⟨cl1, ⟨⟨ix1, ch1, pt1⟩, er1⟩, dn1, mn1⟩ := r1
  obtain ⟨cl2, ⟨⟨ix2, ch2, pt2⟩, er2⟩, dn2, mn2⟩ := r2
  obtain ⟨ac1, ⟨sg3, er3⟩, dn3⟩ := n1
  dsimp only at q1 q2 q3 q4 q5 q6 q7 q8 q9 q10 q11 q12
  subst q1 q2 q3 q4 q8 q9 q11 q12
  refine tri_reg M hI hn (outs := ?_) (s' := ?_) ?_ ?_ ?_ ?_
  rotate_left 2
  · rfl
  · kernel_rfl
  · simp
    exact q6
  refine tri_ret (fun a w hg => ⟨.inr rfl, _, ?_, hg⟩)
  refine retTo_cold (out := ?_) ?_ ?_ ?_ ?_ ?_
  rotate_left 1
  · rfl
  · simp
  · rfl
  · rfl
  refine congrArg pvB ?_
  simp [q10]
  exact q5
def sp26San : Spec := funSpec true fun xs => match xs with
  | [] => some (True, pvB true)
  | _ => none
theorem san26_spec : SpecOk Tryz.prog ShaMem 9 sp26San := by
  refine funSpec_ok (call_enters Tryz.func9 (by kernel_rfl) rfl) (fun xs p r hg hp => ?_)
  split at hg
  · cases hg
    exact san26_fun
  · cases hg
end Go.Proofs.YtplkplegjoabgaaGreatDoor.Pv
