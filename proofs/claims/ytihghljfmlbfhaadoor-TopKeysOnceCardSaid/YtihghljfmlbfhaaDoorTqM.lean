/-
  Several texts in one file: each has its own heading below.
-/
import Derived.Test.YtihghljfmlbfhaaDoorTqL
import Derived.Test.YtihghljfmlbfhaaDoorTqF
import Derived.Test.YtihghljfmlbfhaaDoorTqE
import Derived.WalkMore


namespace Go.Proofs.YtihghljfmlbfhaaDoor
open Go.RowKit
structure HwS where
  b : List (List Int)
  f : Fl
  r : List UInt8
structure Flt where
  cut : Bool
  bytes : Int
  noise : Bool
def flt0 : Flt := ⟨false, 0, false⟩
def zeroR : Res := ⟨0, noBytes⟩
def exB (b : List (List Int)) (bank cell : Int) : Bool := (decide (bank ≥ 0) && decide (bank < (b.length : Int))) && decide (cell ≥ 0) && decide (cell < ((b.getD bank.toNat []).length : Int))
def cellB (b : List (List Int)) (bank cell : Int) : Int := (b.getD bank.toNat []).getD cell.toNat 0
def pulB (b : List (List Int)) (bank cell : Int) (cut : Bool) : List (List Int) := b.set bank.toNat ((b.getD bank.toNat []).set cell.toNat (pulsed (cellB b bank cell) cut))
def cutN (t : Flt) : Int := if t.cut then min (max t.bytes 0) 256 else -1
def devDo (h : HwS) (a : Acc) (t : Flt) : HwS × Res × Int :=
  if a.kind = 1 then
    if a.bytes = noBytes then
      if exB h.b a.bank a.cell then (h, if t.cut then zeroR else ⟨fuseBit (cellB h.b a.bank a.cell) t.noise, noBytes⟩, 0) else (h, zeroR, 1)
    else (h, zeroR, 1)
  else if a.kind = 2 then
    if a.bytes = noBytes then
      if exB h.b a.bank a.cell then ({ h with b := pulB h.b a.bank a.cell t.cut }, zeroR, 0) else (h, zeroR, 1)
    else (h, zeroR, 1)
  else if a.kind = 3 then
    if a.bytes = noBytes ∧ a.bank = 0 then
      if 0 ≤ a.cell ∧ a.cell < h.f.length then (h, if t.cut then zeroR else ⟨0, strOf (sec h.f a.cell)⟩, 0) else (h, zeroR, 13)
    else (h, zeroR, 1)
  else if a.kind = 4 then
    if a.bank = 0 then
      if 0 ≤ a.cell ∧ a.cell < h.f.length then
        if a.bytes.size = 256 then ({ h with f := fwrite h.f a.cell a.bytes (cutN t) }, zeroR, 0) else (h, zeroR, 1)
      else (h, zeroR, 13)
    else (h, zeroR, 1)
  else (h, zeroR, 1)
def fltAt (F : List Flt) (i : Nat) : Flt := F.getD i flt0
def execL {α : Type} (F : List Flt) : Prg α → HwS → Nat → Option α × HwS × Nat
  | .ret a, h, i => (some a, h, i)
  | .ask c k, h, i => if (fltAt F i).cut = true then (none, (devDo h c (fltAt F i)).1, i + 1) else execL F (k (devDo h c (fltAt F i)).2.1) (devDo h c (fltAt F i)).1 (i + 1)
def stL (F : List Flt) (h : HwS) : List Acc → Nat → HwS
  | [], _ => h
  | c :: l, i => stL F (devDo h c (fltAt F i)).1 l (i + 1)
theorem stL_app (F : List Flt) : ∀ (l m : List Acc) (h : HwS) (i : Nat), stL F h (l ++ m) i = stL F (stL F h l i) m (i + l.length)
  | [], m, h, i => rfl
  | c :: l, m, h, i => by
    rw [List.cons_append, stL, stL, stL_app F l m, List.length_cons, show i + 1 + l.length = i + (l.length + 1) from by omega]
theorem stL_snoc (F : List Flt) (l : List Acc) (c : Acc) (h : HwS) : stL F h (l ++ [c]) 0 = (devDo (stL F h l 0) c (fltAt F l.length)).1 := by
  rw [stL_app, Nat.zero_add]
  rfl
structure HwOk (h : HwS) : Prop where
  nb : h.b.length ≤ 1000
  nc : ∀ l ∈ h.b, l.length ≤ 100000
  val : ∀ l ∈ h.b, ∀ x ∈ l, 0 ≤ x ∧ x ≤ 3
  nf : h.f.length ≤ 1000000
  sz : ∀ x ∈ h.f, x.size ≤ 1000000
  rt : h.r.length = 16
theorem pulsed_val {x : Int} (h : 0 ≤ x ∧ x ≤ 3) (cut : Bool) : 0 ≤ pulsed x cut ∧ pulsed x cut ≤ 3 := by
  unfold pulsed
  split
  · split <;> omega
  · exact h
theorem pulB_ok {b : List (List Int)} {bank cell : Int} (hx : exB b bank cell = true) (cut : Bool) (h1 : ∀ l ∈ b, l.length ≤ 100000) (h2 : ∀ l ∈ b, ∀ x ∈ l, 0 ≤ x ∧ x ≤ 3) : (pulB b bank cell cut).length = b.length ∧ (∀ l ∈ pulB b bank cell cut, l.length ≤ 100000) ∧ ∀ l ∈ pulB b bank cell cut, ∀ x ∈ l, 0 ≤ x ∧ x ≤ 3 := by
  have he : (0 ≤ bank ∧ bank < (b.length : Int)) ∧ 0 ≤ cell ∧ cell < ((b.getD bank.toNat []).length : Int) := by
    unfold exB at hx
    simp only [Bool.and_eq_true, decide_eq_true_eq] at hx
    exact ⟨⟨hx.1.1.1, hx.1.1.2⟩, hx.1.2, hx.2⟩
  have hbk : b.getD bank.toNat [] ∈ b := by
    rw [List.getD_eq_getElem?_getD, List.getElem?_eq_getElem (by omega)]
    exact List.getElem_mem _
  have hcl : cellB b bank cell ∈ b.getD bank.toNat [] := by
    unfold cellB
    generalize b.getD bank.toNat [] = l at he
    rw [List.getD_eq_getElem?_getD, List.getElem?_eq_getElem (by omega)]
    exact List.getElem_mem _
  unfold pulB
  refine ⟨List.length_set .., fun l hl => ?_, fun l hl x hx => ?_⟩
  · rcases List.mem_or_eq_of_mem_set hl with hl | rfl
    · exact h1 l hl
    · rw [List.length_set]; exact h1 _ hbk
  · rcases List.mem_or_eq_of_mem_set hl with hl | rfl
    · exact h2 l hl x hx
    · rcases List.mem_or_eq_of_mem_set hx with hx | rfl
      · exact h2 _ hbk x hx
      · exact pulsed_val (h2 _ hbk _ hcl) cut
theorem fwrite_ok1 {f : Fl} {s : Int} {b : ByteArray} {cut : Int} (h1 : f.length ≤ 1000000) (h2 : ∀ x ∈ f, x.size ≤ 1000000) : (fwrite f s b cut).length ≤ 1000000 ∧ ∀ x ∈ fwrite f s b cut, x.size ≤ 1000000 := by
  unfold fwrite
  split
  · rename_i hc
    refine ⟨by rw [List.length_set]; exact h1, fun x hx => ?_⟩
    rcases List.mem_or_eq_of_mem_set hx with hx | rfl
    · exact h2 x hx
    · rw [strOf_size]
      have hs : (sec f s).length ≤ 1000000 := by
        unfold sec
        rw [if_pos ⟨hc.1, hc.2.1⟩, Array.length_toList]
        rw [List.getD_eq_getElem?_getD, List.getElem?_eq_getElem (by omega)]
        exact h2 _ (List.getElem_mem _)
      have hb : b.data.toList.length = 256 := by rw [Array.length_toList]; exact hc.2.2
      unfold torn
      split
      · omega
      · rw [List.length_append, List.length_take, List.length_drop]; omega
  · exact ⟨h1, h2⟩
theorem devDo_ok {h : HwS} (a : Acc) (t : Flt) (k : HwOk h) : HwOk (devDo h a t).1 := by
  unfold devDo
  repeat' split
  all_goals first
    | exact k
    | (rename_i hx; exact ⟨by rw [(pulB_ok hx t.cut k.nc k.val).1]; exact k.nb, (pulB_ok hx t.cut k.nc k.val).2.1, (pulB_ok hx t.cut k.nc k.val).2.2, k.nf, k.sz, k.rt⟩)
    | exact ⟨k.nb, k.nc, k.val, (fwrite_ok1 k.nf k.sz).1, (fwrite_ok1 k.nf k.sz).2, k.rt⟩
def GoodC (c : Acc) : Prop := (c.kind = 1 ∨ c.kind = 2) ∧ c.bank = 2 ∧ 0 ≤ c.cell ∧ c.cell < 48 ∧ c.bytes = noBytes
instance (c : Acc) : Decidable (GoodC c) := by unfold GoodC; infer_instance
structure Dim (h : HwS) : Prop where
  ok : HwOk h
  n : 2 < h.b.length
  l : (h.b.getD 2 []).length = 48
theorem Dim.ex {h : HwS} (d : Dim h) {c : Acc} (g : GoodC c) : exB h.b 2 c.cell = true := by
  obtain ⟨_, _, g1, g2, _⟩ := g
  have h1 := d.n
  have h2 := d.l
  unfold exB
  rw [show (2 : Int).toNat = 2 from rfl, h2]
  simp only [Bool.and_eq_true, decide_eq_true_eq]
  omega
theorem Dim.step {h : HwS} (d : Dim h) {c : Acc} (g : GoodC c) (t : Flt) : Dim (devDo h c t).1 := by
  have hx := d.ex g
  have hok := devDo_ok c t d.ok
  obtain ⟨g0, g1, g2, g3, g4⟩ := g
  have h1 := d.n
  have h2 := d.l
  rcases g0 with g0 | g0
  · have e : (devDo h c t).1 = h := by
      unfold devDo
      rw [if_pos g0, if_pos g4, g1, if_pos hx]
    rw [e]
    exact d
  · have e : (devDo h c t).1 = { h with b := pulB h.b 2 c.cell t.cut } := by
      unfold devDo
      rw [if_neg (by omega), if_pos g0, if_pos g4, g1, if_pos hx]
    rw [e] at hok ⊢
    refine ⟨hok, by show 2 < (pulB _ _ _ _).length; unfold pulB; rw [List.length_set]; exact h1, ?_⟩
    show ((pulB h.b 2 c.cell t.cut).getD 2 []).length = 48
    unfold pulB
    rw [show (2 : Int).toNat = 2 from rfl, List.getD_eq_getElem?_getD, List.getElem?_set_self h1, Option.getD_some, List.length_set]
    exact h2
theorem stL_dim {F : List Flt} : ∀ (l : List Acc) (i : Nat) {h : HwS}, Dim h → (∀ c ∈ l, GoodC c) → Dim (stL F h l i)
  | [], _, _, d, _ => d
  | c :: l, i, _, d, g => stL_dim l (i + 1) (d.step (g c List.mem_cons_self) _) (fun x hx => g x (List.mem_cons_of_mem _ hx))
namespace Pv
def liveO (F : List Flt) (h : HwS) (l : List Acc) : Option Res := match l.getLast? with
  | none => some zeroR
  | some c => if (fltAt F (l.length - 1)).cut = true ∨ ¬ GoodC c ∨ 1000000 < l.length - 1 then none else some (devDo (stL F h l.dropLast 0) c (fltAt F (l.length - 1))).2.1
theorem liveO_snoc (F : List Flt) (h : HwS) (l : List Acc) (c : Acc) : liveO F h (l ++ [c]) = if (fltAt F l.length).cut = true ∨ ¬ GoodC c ∨ 1000000 < l.length then none else some (devDo (stL F h l 0) c (fltAt F l.length)).2.1 := by
  unfold liveO
  rw [List.getLast?_append, List.dropLast_concat, List.length_append, List.length_singleton, Nat.add_sub_cancel]
  rfl
def NoCut (F : List Flt) (n : Nat) : Prop := ∀ k, k < n → (fltAt F k).cut = false
theorem go_live {α : Type} (F : List Flt) (h0 : HwS) (p : Prg α) : Prg.In 48 p → ∀ (n : Nat), p.Within n → ∀ l : List Acc, l.length + n ≤ 1000000 →
    (NoCut F (go (liveO F h0) p l).2.length → execL F p (stL F h0 l 0) l.length = (some (go (liveO F h0) p l).1, stL F h0 (go (liveO F h0) p l).2 0, (go (liveO F h0) p l).2.length)) ∧
    ∀ l' c, l <+: l' → l' ++ [c] <+: (go (liveO F h0) p l).2 → NoCut F l'.length → (fltAt F l'.length).cut = true → execL F p (stL F h0 l 0) l.length = (none, stL F h0 (l' ++ [c]) 0, l'.length + 1) := by
  induction p with
  | ret a =>
    intro _ n _ l _
    refine ⟨fun _ => rfl, fun l' c h1 h2 _ _ => ?_⟩
    rw [go_ret] at h2
    have e1 := h1.length_le
    have e2 : (l' ++ [c]).length ≤ l.length := h2.length_le
    rw [List.length_append, List.length_singleton] at e2
    exfalso
    omega
  | ask a k ih =>
    intro hIn n hW l hln
    obtain ⟨n, rfl⟩ : ∃ m, n = m + 1 := by
      cases n with
      | zero => exact hW.elim
      | succ m => exact ⟨m, rfl⟩
    have hgd : GoodC a := ⟨hIn.1, hIn.2.1, hIn.2.2.1, hIn.2.2.2.1, hIn.2.2.2.2.1⟩
    rw [go_ask]
    have hs := stL_snoc F l a h0
    have hO := liveO_snoc F h0 l a
    have hlen : (l ++ [a]).length = l.length + 1 := by rw [List.length_append, List.length_singleton]
    have hpre := go_pre (liveO F h0) (k (ans (liveO F h0) (l ++ [a]))) (l ++ [a])
    obtain ⟨i1, i2⟩ := ih (ans (liveO F h0) (l ++ [a])) (hIn.2.2.2.2.2 _) n (hW _) (l ++ [a]) (by rw [List.length_append, List.length_singleton]; omega)
    by_cases hc : (fltAt F l.length).cut = true
    · have hex : execL F (.ask a k) (stL F h0 l 0) l.length = (none, stL F h0 (l ++ [a]) 0, l.length + 1) := by
        rw [execL, if_pos hc, hs]
      refine ⟨fun hn => ?_, fun l' c h1 h2 hn hc2 => ?_⟩
      · have := hn l.length (by have := hpre.length_le; omega)
        rw [this] at hc; cases hc
      · have e1 := h1.length_le
        have hll : l'.length = l.length := by
          rcases Nat.lt_or_ge l.length l'.length with h | h
          · have := hn _ h
            rw [this] at hc; cases hc
          · omega
        obtain ⟨t, ht⟩ := h1
        have ht0 : t = [] := by
          have := congrArg List.length ht
          rw [List.length_append] at this
          exact List.eq_nil_of_length_eq_zero (by omega)
        subst ht0
        rw [List.append_nil] at ht
        subst ht
        have he : l ++ [c] = l ++ [a] := by
          obtain ⟨u, hu⟩ := hpre
          obtain ⟨v, hv⟩ := h2
          rw [← hu, List.append_assoc, List.append_assoc] at hv
          have h6 := List.append_cancel_left hv
          simp only [List.singleton_append, List.cons.injEq] at h6
          rw [h6.1]
        rw [he, hex]
    · have hans : ans (liveO F h0) (l ++ [a]) = (devDo (stL F h0 l 0) a (fltAt F l.length)).2.1 := by
        unfold ans
        rw [hO, if_neg (fun h => h.elim hc fun h => h.elim (fun h => h hgd) (fun h => by omega))]
        rfl
      have hex : execL F (.ask a k) (stL F h0 l 0) l.length = execL F (k (ans (liveO F h0) (l ++ [a]))) (stL F h0 (l ++ [a]) 0) (l ++ [a]).length := by
        rw [execL, if_neg hc, hs, hlen, hans]
      refine ⟨fun hn => by rw [hex]; exact i1 hn, fun l' c h1 h2 hn hc2 => ?_⟩
      rw [hex]
      refine i2 l' c ?_ h2 hn hc2
      obtain ⟨t, ht⟩ := h1
      cases t with
      | nil =>
        rw [List.append_nil] at ht
        subst ht
        exact absurd hc2 hc
      | cons x t =>
        subst ht
        obtain ⟨u, hu⟩ := hpre
        obtain ⟨v, hv⟩ := h2
        rw [← hu] at hv
        have h6 : x = a := by
          simp only [List.append_assoc, List.cons_append, List.nil_append] at hv
          have h7 := List.append_cancel_left hv
          simp only [List.cons.injEq] at h7
          exact h7.1
        subst h6
        exact ⟨t, by simp⟩
theorem go_len {α : Type} (O : List Acc → Option Res) (p : Prg α) : ∀ (n : Nat), p.Within n → ∀ l : List Acc, (go O p l).2.length ≤ l.length + n := by
  induction p with
  | ret a => intro n _ l; exact Nat.le_add_right _ _
  | ask a k ih =>
    intro n hW l
    cases n with
    | zero => exact hW.elim
    | succ n =>
      rw [go_ask]
      have := ih _ n (hW (ans O (l ++ [a]))) (l ++ [a])
      rw [List.length_append, List.length_singleton] at this
      omega
theorem go_good {α : Type} (O : List Acc → Option Res) (p : Prg α) : Prg.In 48 p → ∀ l : List Acc, (∀ c ∈ l, GoodC c) → ∀ c ∈ (go O p l).2, GoodC c := by
  induction p with
  | ret a => intro _ l h; exact h
  | ask a k ih =>
    intro hIn l h
    rw [go_ask]
    refine ih _ (hIn.2.2.2.2.2 _) _ (fun c hc => ?_)
    rcases List.mem_append.1 hc with hc | hc
    · exact h c hc
    · obtain rfl := List.mem_singleton.1 hc
      exact ⟨hIn.1, hIn.2.1, hIn.2.2.1, hIn.2.2.2.1, hIn.2.2.2.2.1⟩
end Pv
end Go.Proofs.YtihghljfmlbfhaaDoor


namespace Go.Proofs.YtihghljfmlbfhaaDoor.Pv
open Go.RowKit
set_option maxRecDepth 100000 in
theorem fexists_fun (b : List (List Int)) (bank cell : Int) : FunOk Tryd.prog ShaMem 68 true [.w (.agg (fuPC b)), pvI bank, pvI cell] (pvB (exB b bank cell)) := by
  have M := flNoM (I := ShaMem)
  refine funOk_of Tryd.func68 rfl rfl sha_ext (fun A hS hn hI => ?_)
  refine tri_reg M hI hn (outs := ?_) (s' := ?_) ?_ ?_ ?_ ?_
  rotate_left 2
  · rfl
  · kernel_rfl
  · simp
  refine tri_reg M hI hn (outs := ?_) (s' := ?_) ?_ ?_ ?_ ?_
  rotate_left 2
  · rfl
  · kernel_rfl
  · simp
    exact fun h1 h2 _ => ⟨h1, h2⟩
  refine tri_ret (fun a w hg => ⟨.inr rfl, _, ?_, hg⟩)
  refine retTo_cold (out := ?_) ?_ ?_ ?_ ?_ ?_
  rotate_left 1
  · rfl
  · simp
  · rfl
  · rfl
  refine congrArg pvB ?_
  unfold exB
  cases decide (bank ≥ 0) <;> cases decide (bank < (b.length : Int)) <;> cases decide (cell ≥ 0) <;> rfl
def exG : List PV → Option (Prop × PV)
  | [.w (.agg [.sl 1 n f]), .w (.one (.lit (.int .i64 bank))), .w (.one (.lit (.int .i64 cell)))] => some (IsBkRow n f, pvB (exB (rowBk n f) bank cell))
  | _ => none
theorem fexists_spec : SpecOk Tryd.prog ShaMem 68 (funSpec true exG) := by
  refine funSpec_ok (call_enters Tryd.func68 (by kernel_rfl) rfl) (fun xs p r hg hp w ok0 vs hI hv => ?_)
  unfold exG at hg
  split at hg
  · rename_i n f bank cell
    cases hg
    match vs, hv with
    | [v1, v2, v3], ⟨k1, k2, k3, _⟩ => exact fexists_fun (rowBk n f) bank cell w ok0 [v1, v2, v3] hI ⟨fu_row hp k1, k2, k3, trivial⟩
  · cases hg
set_option maxRecDepth 100000 in
theorem freading_fun (x : Int) (nz : Bool) : FunOk Tryd.prog ShaMem 69 true [lit1 (.int .u8 x), pvB nz] (pvI (fuseBit x nz)) := by
  have M := flNoM (I := ShaMem)
  refine funOk_of Tryd.func69 rfl rfl sha_ext (fun A hS hn hI => ?_)
  refine tri_reg M hI hn (outs := ?_) (s' := ?_) ?_ ?_ ?_ ?_
  rotate_left 2
  · rfl
  · kernel_rfl
  · simp
  refine tri_seq ?_
  refine tri_reg M hI hn (outs := ?_) (s' := ?_) ?_ ?_ ?_ ?_
  rotate_left 2
  · rfl
  · kernel_rfl
  · simp
    exact fun h1 h2 => ⟨h1, h2⟩
  refine tri_cond (b := ?_) ?_ (fun hc => ?_) (fun hc => ?_)
  rotate_left 1
  · rfl
  · have hc2 : (bif x == 2 then true else bif x == 1 then nz else false) = true := hc
    have e : fuseBit x nz = 1 := by
      unfold fuseBit
      by_cases h2 : x = 2
      · simp [h2]
      · by_cases h1 : x = 1
        · subst h1
          have : nz = true := hc2
          simp [this]
        · simp [h1, h2] at hc2
    refine tri_reg M hI hn (outs := ?_) (s' := ?_) ?_ ?_ ?_ ?_
    rotate_left 2
    · rfl
    · kernel_rfl
    · simp
    refine tri_ret (fun a w hg => ⟨.inr rfl, _, ?_, hg⟩)
    refine retTo_cold (out := ?_) ?_ ?_ ?_ ?_ ?_
    rotate_left 1
    · rfl
    · simp
    · rfl
    · rfl
    rw [e]
  · have hc2 : (bif x == 2 then true else bif x == 1 then nz else false) = false := hc
    have e : fuseBit x nz = 0 := by
      unfold fuseBit
      by_cases h2 : x = 2
      · simp [h2] at hc2
      · by_cases h1 : x = 1
        · subst h1
          have : nz = false := hc2
          simp [this]
        · simp [h1, h2]
    refine tri_skip ?_
    change Tri _ _ _ _ _
    refine tri_reg M hI hn (outs := ?_) (s' := ?_) ?_ ?_ ?_ ?_
    rotate_left 2
    · rfl
    · kernel_rfl
    · simp
    refine tri_ret (fun a w hg => ⟨.inr rfl, _, ?_, hg⟩)
    refine retTo_cold (out := ?_) ?_ ?_ ?_ ?_ ?_
    rotate_left 1
    · rfl
    · simp
    · rfl
    · rfl
    rw [e]
def rdgG : List PV → Option (Prop × PV)
  | [.w (.one (.lit (.int .u8 x))), .w (.one (.lit (.bool nz)))] => some (True, pvI (fuseBit x nz))
  | _ => none
theorem freading_spec : SpecOk Tryd.prog ShaMem 69 (funSpec true rdgG) := by
  refine funSpec_ok (call_enters Tryd.func69 (by kernel_rfl) rfl) (fun xs p r hg hp => ?_)
  unfold rdgG at hg
  split at hg
  · cases hg
    exact freading_fun _ _
  · cases hg
def fzL : List (Nat × Spec) := [(68, funSpec true exG), (69, funSpec true rdgG)]
theorem fz_ok : ∀ p ∈ fzL, SpecOk Tryd.prog ShaMem p.1 p.2 := by
  intro p hp
  simp only [fzL, List.mem_cons, List.not_mem_nil, or_false] at hp
  rcases hp with rfl | rfl
  · exact fexists_spec
  · exact freading_spec
theorem fzM : Mach Tryd.prog ShaMem (find fzL) := ⟨specs_of fz_ok, mixed_⟩
theorem exB_in {b : List (List Int)} {bank cell : Int} (he : exB b bank cell = true) : (0 ≤ bank ∧ bank < (b.length : Int)) ∧ 0 ≤ cell ∧ cell < ((b.getD bank.toNat []).length : Int) := by
  unfold exB at he
  simp only [Bool.and_eq_true, decide_eq_true_eq] at he
  exact ⟨⟨he.1.1.1, he.1.1.2⟩, he.1.2, he.2⟩
def frdR (b : List (List Int)) (bank cell : Int) (nz : Bool) : PV := .tup [.one (.lit (.int .i64 (if exB b bank cell then fuseBit (cellB b bank cell) nz else 0))), .one (.lit (.int .i64 (if exB b bank cell then 0 else 1)))]
set_option maxRecDepth 100000 in
theorem frd_fun (b : List (List Int)) (bank cell : Int) (nz : Bool) : FunOk Tryd.prog ShaMem 51 true [.w (.agg (fuPC b)), pvI bank, pvI cell, pvB nz] (frdR b bank cell nz) := by
  have M := fzM
  refine funOk_of Tryd.func51 rfl rfl sha_ext (fun A hS hn hI => ?_)
  unfold frdR
  refine tri_reg M hI hn (outs := ?_) (s' := ?_) ?_ ?_ ?_ ?_
  rotate_left 2
  · rfl
  · kernel_rfl
  · simp
  refine tri_seq ?_
  refine tri_reg M hI hn (outs := ?_) (s' := ?_) ?_ ?_ ?_ ?_
  rotate_left 2
  · rfl
  · kernel_rfl
  · simp
  rw [rowBk_bankF]
  refine tri_cond (b := ?_) ?_ (fun hc => ?_) (fun hc => ?_)
  rotate_left 1
  · rfl
  · have he : exB b bank cell = false := by
      have hc2 : (!(exB b bank cell)) = true := hc
      simpa using hc2
    rw [he]
    refine tri_reg M hI hn (outs := ?_) (s' := ?_) ?_ ?_ ?_ ?_
    rotate_left 2
    · rfl
    · kernel_rfl
    · simp
    refine tri_ret (fun a w hg => ⟨.inr rfl, _, ?_, hg⟩)
    refine retTo_cold (out := ?_) ?_ ?_ ?_ ?_ ?_
    rotate_left 1
    · rfl
    · simp
    · rfl
    · rfl
    rfl
  have he : exB b bank cell = true := by
    have hc2 : (!(exB b bank cell)) = false := hc
    simpa using hc2
  have hex := exB_in he
  rw [he]
  refine tri_skip ?_
  change Tri _ _ _ _ _
  refine tri_reg M hI hn (outs := ?_) (s' := ?_) ?_ ?_ ?_ ?_
  rotate_left 2
  · rfl
  · kernel_rfl
  · simp
    rw [List.getD_eq_getElem?_getD] at hex
    exact hex
  refine tri_ret (fun a w hg => ⟨.inr rfl, _, ?_, hg⟩)
  refine retTo_cold (out := ?_) ?_ ?_ ?_ ?_ ?_
  rotate_left 1
  · rfl
  · simp
  · rfl
  · rfl
  rfl
def frdG : List PV → Option (Prop × PV)
  | [.w (.agg [.sl 1 n f]), .w (.one (.lit (.int .i64 bank))), .w (.one (.lit (.int .i64 cell))), .w (.one (.lit (.bool nz)))] => some (IsBkRow n f, frdR (rowBk n f) bank cell nz)
  | _ => none
theorem frd_spec : SpecOk Tryd.prog ShaMem 51 (funSpec true frdG) := by
  refine funSpec_ok (call_enters Tryd.func51 (by kernel_rfl) rfl) (fun xs p r hg hp w ok0 vs hI hv => ?_)
  unfold frdG at hg
  split at hg
  · rename_i n f bank cell nz
    cases hg
    match vs, hv with
    | [v1, v2, v3, v4], ⟨k1, k2, k3, k4, _⟩ => exact frd_fun (rowBk n f) bank cell nz w ok0 [v1, v2, v3, v4] hI ⟨fu_row hp k1, k2, k3, k4, trivial⟩
  · cases hg
end Go.Proofs.YtihghljfmlbfhaaDoor.Pv


namespace Go.Proofs.YtihghljfmlbfhaaDoor.Pv
open Go.RowKit
def resC (w : World) (ok0 : Nat → Prop) (base : Nat) (val : Value) : Ctx := { w := w, ok := fun b => (ok0 b ∨ base ≤ b) ∧ hblk val ≠ some b, env := fun _ => none }
def FunRowS (P : Program) (I : World → Prop) (f : Nat) (args : List PV) (e n len : Nat) (f' : Nat → List PC) : Prop :=
  ∀ (w : World) (ok0 : Nat → Prop) (vs : List Value), I w → Vals { w, ok := ok0, env := fun _ => none } args vs →
    Calls P f vs.toArray w fun r w' => ∃ val xs, r = .returned val ∧ Ext w w' ∧ w'.ownsRow w.heap.size e n val len xs ∧ ∀ i, i < len → RL (resC w' ok0 w.heap.size val) (f' i) ((xs.drop (i * n)).take n)
def RowToS (P : Program) (fn : Func) (e n len : Nat) (f' : Nat → List PC) (s : St) : Prop :=
  ∃ x ver g f, (retM P fn.results).ok none s (fun _ v' wr => v' = pv1 (.ow x ver n 0 len) ∧ wr = []) ∧ find s.o x = some (g, ver, .arr e n len f) ∧ gT g ∧ ∀ i, i < len → f i = f' i ∧ (f' i).all (coldPC false) = true
def RQRS (P : Program) (A : Amb) (fn : Func) (e n len : Nat) (f' : Nat → List PC) : Exit → Act → World → Prop
  | .panic chain, a, w => a.defers = [] ∧ PanG A chain w
  | x, a, w => (x = .normal ∨ x = .ret) ∧ ∃ s, RowToS P fn e n len f' s ∧ Gam A s a w
theorem rowToS_of {P : Program} {fn : Func} {e n len x ver : Nat} {g : Option Bool} {f f' : Nat → List PC} {s : St} {out : Out} (h : (retM P fn.results).exec none s [] [] [] [] = some out) (hc : All out.conds) (hw : out.wr = []) (hx : out.val = pv1 (.ow x ver n 0 len)) (hf : find s.o x = some (g, ver, .arr e n len f)) (hg : gT g) (hff : ∀ i, i < len → f i = f' i ∧ (f' i).all (coldPC false) = true) : RowToS P fn e n len f' s := by
  rw [exec_nil] at h
  exact ⟨x, ver, g, f, M.ok_of_run _ none s out _ h (fun p hp => hc.mem p hp) ⟨hx, hw⟩, hf, hg, hff⟩
theorem funRowS_of {P : Program} {I : World → Prop} {f : Nat} {fn : Func} {c : Code} {args : List PV} {e n len : Nat} {f' : Nat → List PC} (hf : P.funcs[f]? = some fn) (hb : fn.body = some c) (hnb : Nat.ble args.length fn.ntmps = true) (hI : ∀ w w', Ext w w' → I w → I w')
    (hT : ∀ A : Amb, A.S = Non → A.nt = fn.ntmps → AmbOk P I A → Tri P A ⟨slots 0 args, []⟩ c (RQRS P A fn e n len f')) (hmk : Nat.blt e mkT = true := by rfl) : FunRowS P I f args e n len f' := by
  intro w ok0 vs hIw hv
  have hn := Nat.le_of_ble_eq_true hnb
  have hlen := hv.length
  have hg : Gam (Amb.plain w ok0 fn.ntmps) ⟨slots 0 args, []⟩ { tmps := vs.toArray ++ Array.replicate (fn.ntmps - vs.toArray.size) undef, defers := [] } w := by
    refine ⟨fun _ => none, { chg := Chg.refl _ _, size := ?_, dom := fun x _ => rfl, objs := fun x g ver o h => (by cases h), live := fun x ver hd b h => (by cases h), inj := fun x y v1 h1 v2 h2 b h => (by cases h), tmps := fun t g pv h hgt => ?_, defers := rfl, und := fun t pv h => (by obtain ⟨k, _, h2⟩ := find_slotsG h; cases h2), exts := fun x hd h => (by cases h), dev := fun g ver O stp l h => (by cases h) }⟩
    · simp [Amb.plain]; omega
    · obtain ⟨k, h1, h2⟩ := find_slots h
      obtain ⟨v, h3, h4⟩ := hv.at h2
      rw [Nat.zero_add] at h1
      subst h1
      have hk : t < vs.length := (List.getElem?_eq_some_iff.1 h3).1
      refine ⟨v, ?_, ?_⟩
      · rw [Array.getElem?_append_left (by simpa using hk)]
        simpa using h3
      · refine h4.le ⟨Nat.le_refl _, fun b _ hb => ⟨⟨.inl hb, fun _ _ _ h => by cases h⟩, rfl⟩, fun _ _ _ h => by cases h⟩
  refine calls_of_wp hf hb (wp_mono (hT (Amb.plain w ok0 fn.ntmps) rfl rfl (AmbOk.plain fun w' hc => hI w w' hc hIw) _ w hg (fun _ _ _ hd h => ⟨hd, h⟩)) (fun x a' w' he => ?_))
  have he' : (x = .normal ∨ x = .ret) ∧ ∃ s, RowToS P fn e n len f' s ∧ Gam (Amb.plain w ok0 fn.ntmps) s a' w' := by
    cases x with
    | panic chain => obtain ⟨_, l, hl, _⟩ := he; exact hl.elim
    | _ => exact he
  obtain ⟨h1, s, ⟨x0, ver, g, f0, h2, hfo, hgt, hff⟩, h4⟩ := he'
  obtain ⟨env, hE⟩ := h4
  obtain ⟨v', val, h5, h6, h7, _⟩ := retM_ok hE h2
  subst h7
  obtain ⟨hd, hev, hob⟩ := obj_at hE hfo hgt
  obtain ⟨A0, n0, c0, rfl, hle0, rfl⟩ := h6.ow_inv hev
  obtain ⟨xs, hown, hel⟩ := hob
  have hn0 : n0 = len := by
    obtain ⟨_, A1, c1, e1, _⟩ := Reads.of_ownX hown
    cases e1; rfl
  have hown := hown.plain hmk
  subst hn0
  have hA : A0.map (fun p => p.add (0 * n)) = A0 := by
    cases A0 with
    | none => rfl
    | some ad => simp [Addr.add]
  have hown2 : w'.ownsRow w.heap.size e n (.slice A0 n0 c0) n0 xs := ⟨hown.1, hown.2.imp id (fun ⟨g, cap, cur, h1, _, h3⟩ => ⟨g, cap, cur, h1, by
    have := (hE.live x0 ver _ g hev (by rw [h1]; rfl)).2
    exact this.resolve_right (fun h => h.1), h3⟩)⟩
  have this : a'.defers = [] ∧ ∃ v, (results fn a'.tmps).run P w' = .ok v w' ∧ ∃ val xs, Ending.returned v = .returned val ∧ Ext w w' ∧ w'.ownsRow w.heap.size e n val n0 xs ∧ ∀ i, i < n0 → RL (resC w' ok0 w.heap.size val) (f' i) ((xs.drop (i * n)).take n) := by
    refine ⟨hE.defers, _, h5, _, xs, rfl, hE.chg, ?_, fun i hi => ?_⟩
    · first | exact hown2 | (simp only [Nat.zero_mul, Nat.sub_zero] at hA ⊢; rw [hA]; exact hown2)
    · have h8 := hel i hi
      rw [(hff i hi).1] at h8
      refine (coldPL_le h8 (hff i hi).2).le ⟨Nat.le_refl _, fun b _ ho => ⟨⟨ho.1, fun e => ho.2 x0 ver _ hev ?_⟩, rfl⟩, fun _ _ _ h => by cases h⟩
      simp only [Nat.zero_mul, Nat.sub_zero] at hA e
      rw [hA] at e
      exact e
  rcases h1 with rfl | rfl <;> exact this
section
variable {P : Program} {I : World → Prop} {A : Amb} {s : St} {a : Act} {w : World} {env : Env}
theorem GamE.new_ownS (h : GamE A s a w env) (nm : Nat) (e n len : Nat) {f : Nat → List PC} {v : Value} {xs : List Value} {w' : World} (hE : Ext w w') (ho : w'.ownsRow w.heap.size e n v len xs) (hr : ∀ i, i < len → RL (resC w' (ctxOf A w env).ok w.heap.size v) (f i) ((xs.drop (i * n)).take n)) :
    ∃ env', GamE A { s with o := [(nm, none, fresh s nm, .arr e n len f)] ++ s.o } a w' env' ∧ RV (ctxOf A w' env') (pv1 (.ow nm (fresh s nm) n 0 len)) v := by
  have ho0 : w'.ownsRow 0 e n v len xs := ⟨ho.1, ho.2.imp id (fun ⟨g, cap, cur, h1, _, h3⟩ => ⟨g, cap, cur, h1, Nat.zero_le _, h3⟩)⟩
  obtain ⟨A0, c0, rfl⟩ := own_slice ho
  obtain ⟨h1, h2⟩ := h.new (w' := w') nm none (.slice A0 len c0) (.arr e n len f) hE (fun b hb => by
      have hb' : (Value.slice A0 len c0).ownBlock = some b := by cases A0 <;> exact hb
      exact ⟨(ho.lt b hb').2, (ho.lt b hb').1⟩)
    (fun hle _ => ⟨xs, ownX_of ho0, fun i hi => (hr i hi).le ⟨Nat.le_refl _, fun b hb hok => ⟨by
      obtain ⟨hq, hne⟩ := hok
      rcases Nat.lt_or_ge b w.heap.size with hlt | hge
      · rcases hq with hq | hq
        · exact (hle.blk b hlt hq).1
        · omega
      · refine ⟨.inr (Nat.le_trans h.chg.size hge), fun x ver hd he hbl => ?_⟩
        by_cases hx : x = nm
        · subst hx
          rw [updE_eq] at he
          cases he
          exact hne hbl
        · rw [updE_ne hx] at he
          have := (h.live x ver hd b he hbl).1
          omega, rfl⟩, fun _ _ _ h => by cases h⟩⟩)
  refine ⟨_, h1, .w (.one (.ow ⟨_, _, rfl⟩ ⟨_, _, updE_eq _ _ _ _, Nat.le_refl _, fun _ => ⟨_, _, _, rfl, by omega, ?_⟩⟩))⟩
  cases A0 with
  | none => simp
  | some ad => simp [Addr.add]
def rowSpecS (g : List PV → Option (Prop × Nat × Nat × Nat × (Nat → List PC))) : Spec := fun nm xs => match xs.all isColdV, g xs with
  | true, some (p, e, n, len, f) => .need p (.new nm (.arr e n len f) fun v => .ret (pv1 (.ow nm v n 0 len)))
  | _, _ => .fail
theorem rowSpecS_ok {f : Nat} {g : List PV → Option (Prop × Nat × Nat × Nat × (Nat → List PC))} (hent : ∀ args w, (callFunc f args).run P w = .ok (.enter f args) w) (hg : ∀ xs p e n len f', g xs = some (p, e, n, len, f') → p → FunRowS P I f xs e n len f') : SpecOk P I f (rowSpecS g) := by
  refine ⟨hent, fun A s a w env nm pvs vs F h hI hv hk => ?_⟩
  unfold rowSpecS at hk
  cases hc : pvs.all isColdV <;> cases hq : g pvs <;> simp only [hc, hq] at hk <;> try exact hk.elim
  rename_i q
  obtain ⟨p, e, n, len, f'⟩ := q
  obtain ⟨hp, hk⟩ := hk
  refine (hg pvs p e n len f' hq hp w (ctxOf A w env).ok vs (hI.mem w h.chg) (coldVs_le hv hc)).mono ?_
  rintro r w' ⟨val, xs, rfl, hE, ho, hr⟩
  obtain ⟨env', h3, h4⟩ := h.new_ownS nm e n len (f := f') hE ho hr
  exact .inl ⟨_, _, _, env', rfl, hk, h3, h4⟩
end
end Go.Proofs.YtihghljfmlbfhaaDoor.Pv


namespace Go.Proofs.YtihghljfmlbfhaaDoor.Pv
open Go.RowKit
theorem app0 (f g : Nat → List PC) : appF 0 f g = g := by
  funext i
  unfold appF
  rw [if_neg (by omega)]
  rfl
set_option maxRecDepth 100000 in
theorem clnB_fun (b : List (List Int)) (h0 : 0 < b.length) (hl : b.length ≤ 100000) : FunRowS Tryd.prog ShaMem 70 [pv1 (.sl 1 b.length (bankF b))] 24 1 b.length (bankF b) := by
  have M := flNoM (I := ShaMem)
  have hb1 : Tryd.prog.types[24].bytes = 24 := by kernel_rfl
  have hs1 : Tryd.prog.types[24].size = 1 := by kernel_rfl
  refine funRowS_of Tryd.func70 rfl rfl sha_ext (fun A hS hn hI => ?_)
  refine tri_reg M hI hn (outs := ?_) (s' := ?_) ?_ ?_ ?_ ?_
  rotate_left 2
  · rfl
  · kernel_rfl
  · simp
  refine tri_seq ?_
  refine tri_reg M hI hn (outs := ?_) (s' := ?_) ?_ ?_ ?_ ?_
  rotate_left 2
  · rfl
  · kernel_rfl
  · simp
    omega
  refine tri_cond (b := ?_) ?_ (fun hc => ?_) (fun hc => ?_)
  rotate_left 1
  · rfl
  · cases hc
  refine tri_skip ?_
  change Tri _ _ _ _ _
  refine tri_reg M hI hn (outs := ?_) (s' := ?_) ?_ ?_ ?_ ?_
  rotate_left 2
  · rfl
  · kernel_rfl
  · simp
    rw [hb1]
    omega
  refine tri_conv (s' := ⟨[(2, none, pv1 (.ow 3000 0 1 0 b.length))], [(3000, none, 0, .arr 24 1 b.length (bankF b))]⟩) (fun a w hg => (hg.reset (kT := [2]) (kO := [3000]) (by rfl) ?_).same ?_ ?_) ?_
  · simp
    rw [app0]
    exact fun i _ x hx => by
      have : x ∈ [_] := hx
      rw [List.mem_singleton] at this
      subst this
      rfl
  · refine .cons ?_ .nil
    change pv1 (.ow 3000 0 Tryd.prog.types[24].size 0 (0 + b.length)) = _
    rw [hs1, Nat.zero_add]
  · refine .cons (.arr ?_ (fun i hi => ?_)) .nil
    · exact Nat.zero_add _
    · rw [app0]
  refine tri_ret (fun a w hg => ⟨.inr rfl, _, ?_, hg⟩)
  refine rowToS_of (x := 3000) (ver := 0) (g := none) (f := ?_) (out := ?_) ?_ ?_ ?_ ?_ ?_ trivial ?_
  rotate_left 2
  · rfl
  · simp
  · rfl
  · rfl
  · rfl
  exact fun i hi => ⟨rfl, rfl⟩
set_option maxRecDepth 100000 in
theorem clnC_fun (b : List Int) (h0 : 0 < b.length) (hl : b.length ≤ 100000) : FunRow Tryd.prog ShaMem 42 [pv1 (.sl 1 b.length (u8F b))] 5 1 b.length (u8F b) := by
  have M := flNoM (I := ShaMem)
  have hb1 : Tryd.prog.types[5].bytes = 1 := by kernel_rfl
  have hs1 : Tryd.prog.types[5].size = 1 := by kernel_rfl
  refine funRow_of Tryd.func42 rfl rfl sha_ext (fun A hS hn hI => ?_)
  refine tri_reg M hI hn (outs := ?_) (s' := ?_) ?_ ?_ ?_ ?_
  rotate_left 2
  · rfl
  · kernel_rfl
  · simp
  refine tri_seq ?_
  refine tri_reg M hI hn (outs := ?_) (s' := ?_) ?_ ?_ ?_ ?_
  rotate_left 2
  · rfl
  · kernel_rfl
  · simp
    omega
  refine tri_cond (b := ?_) ?_ (fun hc => ?_) (fun hc => ?_)
  rotate_left 1
  · rfl
  · cases hc
  refine tri_skip ?_
  change Tri _ _ _ _ _
  refine tri_reg M hI hn (outs := ?_) (s' := ?_) ?_ ?_ ?_ ?_
  rotate_left 2
  · rfl
  · kernel_rfl
  · simp
    rw [hb1]
    omega
  refine tri_conv (s' := ⟨[(2, none, pv1 (.ow 3000 0 1 0 b.length))], [(3000, none, 0, .arr 5 1 b.length (u8F b))]⟩) (fun a w hg => (hg.reset (kT := [2]) (kO := [3000]) (by rfl) ?_).same ?_ ?_) ?_
  · simp
    rw [app0]
    exact fun i _ x hx => by
      have : x ∈ [_] := hx
      rw [List.mem_singleton] at this
      subst this
      rfl
  · refine .cons ?_ .nil
    change pv1 (.ow 3000 0 Tryd.prog.types[5].size 0 (0 + b.length)) = _
    rw [hs1, Nat.zero_add]
  · refine .cons (.arr ?_ (fun i hi => ?_)) .nil
    · exact Nat.zero_add _
    · rw [app0]
  refine tri_ret (fun a w hg => ⟨.inr rfl, _, ?_, hg⟩)
  refine rowTo_of (x := 3000) (ver := 0) (g := none) (f := ?_) (out := ?_) ?_ ?_ ?_ ?_ ?_ trivial ?_
  rotate_left 2
  · rfl
  · simp
  · rfl
  · rfl
  · rfl
  exact fun i hi => ⟨rfl, rfl⟩
def spClnB : Spec := rowSpecS fun xs => match xs with
  | [.w (.one (.sl 1 n f))] => some (0 < n ∧ n ≤ 100000 ∧ IsBkRow n f, 24, 1, (rowBk n f).length, bankF (rowBk n f))
  | _ => none
theorem sl_row {C : Ctx} {n : Nat} {f : Nat → List PC} {v : Value} (hf : IsBkRow n f) (h : RV C (pv1 (.sl 1 n f)) v) : RV C (pv1 (.sl 1 (rowBk n f).length (bankF (rowBk n f)))) v := by
  cases h with
  | w h => cases h with
    | one h => exact .w (.one (bankF_row hf h))
theorem FunRowS.args {P : Program} {I : World → Prop} {f : Nat} {args args' : List PV} {e n len : Nat} {f' : Nat → List PC} (h : FunRowS P I f args' e n len f') (hv : ∀ C vs, Vals C args vs → Vals C args' vs) : FunRowS P I f args e n len f' := fun w ok0 vs hI hV => h w ok0 vs hI (hv _ _ hV)
theorem FunRow.args {P : Program} {I : World → Prop} {f : Nat} {args args' : List PV} {e n len : Nat} {f' : Nat → List PC} (h : FunRow P I f args' e n len f') (hv : ∀ C vs, Vals C args vs → Vals C args' vs) : FunRow P I f args e n len f' := fun w ok0 vs hI hV => h w ok0 vs hI (hv _ _ hV)
theorem clnB_ok : SpecOk Tryd.prog ShaMem 70 spClnB := by
  refine rowSpecS_ok (call_enters Tryd.func70 (by kernel_rfl) rfl) (fun xs p e n len f' hg hp => ?_)
  split at hg
  · rename_i n0 f0
    cases hg
    obtain ⟨h0, h1, h2⟩ := hp
    exact (clnB_fun (rowBk n0 f0) (by rw [rowBk_length]; exact h0) (by rw [rowBk_length]; exact h1)).args fun C vs hv => by
      match vs, hv with
      | [x], ⟨k0, _⟩ => exact ⟨sl_row h2 k0, trivial⟩
  · cases hg
def IsCellRow (n : Nat) (g : Nat → List PC) : Prop := ∀ j, j < n → isU8c (g j) = true
def rowCell (n : Nat) (g : Nat → List PC) : List Int := (List.range n).map fun j => u8Of (g j)
theorem rowCell_u8F (l : List Int) : rowCell l.length (u8F l) = l := bkOf_bkPC l
theorem cell_row {C : Ctx} {n : Nat} {g : Nat → List PC} {v : Value} (hf : IsCellRow n g) (h : RV C (pv1 (.sl 1 n g)) v) : RV C (pv1 (.sl 1 (rowCell n g).length (u8F (rowCell n g)))) v := by
  have hl : (rowCell n g).length = n := by unfold rowCell; simp
  rw [hl]
  cases h with
  | w h => cases h with
    | one h => exact .w (.one (h.sl_ext fun j hj => by
      unfold u8F rowCell
      rw [getD_map_range n j (fun j => u8Of (g j)) hj]
      exact isU8c_ok (hf j hj)))
@[simp] theorem rowCell_length (n : Nat) (g : Nat → List PC) : (rowCell n g).length = n := by unfold rowCell; simp
theorem pulB_at2 {b : List (List Int)} {nc : Nat} {cut : Bool} (h : 2 < b.length) : bankF (pulB b 2 (nc : Int) cut) 2 = bkPC ((b.getD 2 []).set nc (pulsed (cellB b 2 (nc : Int)) cut)) := by
  unfold bankF pulB
  rw [show (2 : Int).toNat = 2 from rfl, List.getD_eq_getElem?_getD, List.getElem?_set_self h]
  rfl
theorem pulB_ne {b : List (List Int)} {nc : Nat} {cut : Bool} {i : Nat} (h : i ≠ 2) : bankF (pulB b 2 (nc : Int) cut) i = bankF b i := by
  unfold bankF pulB
  rw [show (2 : Int).toNat = 2 from rfl, List.getD_eq_getElem?_getD, List.getElem?_set_ne (fun e => h e.symm), ← List.getD_eq_getElem?_getD]
theorem u8F_set {l : List Int} {nc : Nat} {x : Int} (h : nc < l.length) {k : Nat} : (if k = nc then [PC.lit (.int .u8 x)] else u8F l k) = u8F (l.set nc x) k := by
  unfold u8F
  by_cases hk : k = nc
  · subst hk
    rw [if_pos rfl, List.getD_eq_getElem?_getD, List.getElem?_set_self h]
    rfl
  · rw [if_neg hk, List.getD_eq_getElem?_getD, List.getD_eq_getElem?_getD, List.getElem?_set_ne (fun e => hk e.symm)]
theorem ExC.sl_len {s : St} {new : Bool} {c : PC} {n len len' : Nat} {f : Nat → List PC} (e : len' = len) (h : ExC s new c (.sl n len' f)) : ExC s new c (.sl n len f) := by subst e; exact h
theorem pulB_length (b : List (List Int)) (bank cell : Int) (cut : Bool) : (pulB b bank cell cut).length = b.length := List.length_set ..
def spClnC : Spec := rowSpec fun xs => match xs with
  | [.w (.one (.sl 1 n f))] => some (0 < n ∧ n ≤ 100000 ∧ IsCellRow n f, 5, 1, (rowCell n f).length, u8F (rowCell n f))
  | _ => none
theorem clnC_ok : SpecOk Tryd.prog ShaMem 42 spClnC := by
  refine rowSpec_ok (call_enters Tryd.func42 (by kernel_rfl) rfl) (fun xs p e n len f' hg hp => ?_)
  split at hg
  · rename_i n0 f0
    cases hg
    obtain ⟨h0, h1, h2⟩ := hp
    have hl : (rowCell n0 f0).length = n0 := by unfold rowCell; simp
    exact (clnC_fun (rowCell n0 f0) (by rw [hl]; exact h0) (by rw [hl]; exact h1)).args fun C vs hv => by
      match vs, hv with
      | [x], ⟨k0, _⟩ => exact ⟨cell_row h2 k0, trivial⟩
  · cases hg
def puL : List (Nat × Spec) := [(68, funSpec true exG), (70, spClnB), (42, spClnC)]
theorem pu_ok : ∀ p ∈ puL, SpecOk Tryd.prog ShaMem p.1 p.2 := by
  intro p hp
  simp only [puL, List.mem_cons, List.not_mem_nil, or_false] at hp
  rcases hp with rfl | rfl | rfl
  · exact fexists_spec
  · exact clnB_ok
  · exact clnC_ok
theorem puM : Mach Tryd.prog ShaMem (find puL) := ⟨specs_of pu_ok, mixed_⟩
def pulPV (b : List (List Int)) (e : Int) : PV := .tup [.agg (fuPC b), .one (.lit (.int .i64 e))]
def puSt (b : List (List Int)) (nb nc : Nat) (x : Int) : St := ⟨[(1, none, pvI (nb : Int)), (2, none, pvI (nc : Int)), (4, none, pv1 (.pt 0 0 0)), (8, none, pv1 (.pt 1 0 0)), (10, none, lit1 (.int .u8 x))], [(0, none, 0, .box 29 (fuPC b)), (1, none, 0, .box 29 [.lit (.slice none 0 0)])]⟩
set_option maxRecDepth 100000 in
set_option maxHeartbeats 2000000 in
theorem pul_yes2 (b : List (List Int)) (nc : Nat) (cut : Bool) (hl4 : b.length ≤ 1000) (hlb : ∀ l ∈ b, l.length ≤ 100000) (hv : ∀ l ∈ b, ∀ x ∈ l, 0 ≤ x ∧ x ≤ 3) (he : exB b 2 (nc : Int) = true) : FunOk Tryd.prog ShaMem 53 false [.w (.agg (fuPC b)), pvI ((2 : Nat) : Int), pvI (nc : Int), pvB cut] (pulPV (pulB b 2 (nc : Int) cut) 0) := by
  have M := puM
  have hex := exB_in he
  refine funOk_of Tryd.func53 rfl rfl sha_ext (fun A hS hn hI => ?_)
  refine tri_reg M hI hn (outs := ?_) (s' := ?_) ?_ ?_ ?_ ?_
  rotate_left 2
  · rfl
  · kernel_rfl
  · simp
  refine tri_seq ?_
  refine tri_reg M hI hn (outs := ?_) (s' := ?_) ?_ ?_ ?_ ?_
  rotate_left 2
  · rfl
  · kernel_rfl
  · simp
  rw [rowBk_bankF, show ((2 : Nat) : Int) = 2 from rfl, he]
  refine tri_cond (b := ?_) ?_ (fun hc => ?_) (fun hc => ?_)
  rotate_left 1
  · rfl
  · cases hc
  refine tri_skip ?_
  change Tri _ _ _ _ _
  refine tri_reg M hI hn (outs := ?_) (s' := ?_) ?_ ?_ ?_ ?_
  rotate_left 2
  · rfl
  · kernel_rfl
  · simp
  have h2b : 2 < b.length := by have := hex.1.2; omega
  have hlm : b.getD 2 [] ∈ b := getD_mem h2b []
  have hcl : (nc : Int) < ((b.getD 2 []).length : Int) := hex.2.2
  have hcm : 0 ≤ cellB b 2 (nc : Int) ∧ cellB b 2 (nc : Int) ≤ 3 := hv _ hlm _ (getD_mem (by omega) 0)
  refine tri_seq ?_
  refine tri_reg M hI hn (outs := ?_) (s' := ?_) ?_ ?_ ?_ ?_
  rotate_left 2
  · rfl
  · kernel_rfl
  · simp
  refine tri_cond (b := ?_) ?_ (fun hc => ?_) (fun hc => ?_)
  rotate_left 1
  · rfl
  · have hcut : cut = true := hc
    refine tri_region M hI hn (outs := ?_) (s' := ?_) ?_ ?_ ?_ ?_
    rotate_left 2
    · rfl
    · kernel_rfl
    · simp
    change Tri _ _ _ _ _
    refine tri_seq ?_
    refine tri_reg M hI hn (outs := ?_) (s' := ?_) ?_ ?_ ?_ ?_
    rotate_left 2
    · rfl
    · kernel_rfl
    · simp
      rw [← List.getD_eq_getElem?_getD]
      omega
    refine tri_reg M hI hn (outs := ?_) (s' := ?_) ?_ ?_ ?_ ?_
    rotate_left 2
    · rfl
    · kernel_rfl
    · simp
    refine tri_cond (b := ?_) ?_ (fun hc => ?_) (fun hc => ?_)
    rotate_left 1
    · rfl
    · have hc2 : (bif cellB b 2 (nc : Int) == 2 then true else cellB b 2 (nc : Int) == 3) = true := hc
      have hx : pulsed (cellB b 2 (nc : Int)) cut = cellB b 2 (nc : Int) := by
        unfold pulsed
        have h5 : ¬ cellB b 2 (nc : Int) ≤ 1 := fun h => by
          by_cases h2 : cellB b 2 (nc : Int) = 2
          · omega
          · rw [beq_eq_false_iff_ne.2 h2] at hc2
            have h3 := eq_of_beq hc2
            omega
        rw [if_neg h5]
      refine tri_region M hI hn (outs := ?_) (s' := ?_) ?_ ?_ ?_ ?_
      rotate_left 2
      · rfl
      · kernel_rfl
      · simp
      change Tri _ _ _ _ _
      refine tri_conv (s' := puSt b 2 nc (pulsed (cellB b 2 (nc : Int)) cut)) (fun a w hg => (hg.reset (kT := [1, 2, 4, 8, 10]) (kO := [0, 1]) (by rfl) (by simp)).same ?_ ?_) ?_
      · exact .cons rfl (.cons rfl (.cons rfl (.cons rfl (.cons (congrArg (fun z => lit1 (.int .u8 z)) hx.symm) .nil))))
      · exact .cons (.box rfl) (.cons (.box rfl) .nil)
      refine tri_reg M hI hn (outs := ?_) (s' := ?_) ?_ ?_ ?_ ?_
      rotate_left 2
      · rfl
      · kernel_rfl
      · simp
        omega
      refine tri_reg M hI hn (outs := ?_) (s' := ?_) ?_ ?_ ?_ ?_
      rotate_left 2
      · rfl
      · kernel_rfl
      · simp
        rw [← List.getD_eq_getElem?_getD]
        exact ⟨by omega, by omega, ⟨by omega, hlb _ hlm, fun _ _ => rfl⟩, by omega, by omega⟩
      refine tri_reg M hI hn (outs := ?_) (s' := ?_) ?_ ?_ ?_ ?_
      rotate_left 2
      · rfl
      · kernel_rfl
      · simp
        rw [← List.getD_eq_getElem?_getD]
        omega
      refine tri_reg M hI hn (outs := ?_) (s' := ?_) ?_ ?_ ?_ ?_
      rotate_left 2
      · rfl
      · kernel_rfl
      · simp
      refine tri_ret (fun a w hg => ⟨.inr rfl, _, ?_, hg⟩)
      unfold pulPV fuPC
      rw [pulB_length]
      refine retTo_ex (out := ?_) ?_ ?_ ?_ ?_
      rotate_left 1
      · rfl
      · simp
      · rfl
      refine .tup (.cons (.agg (.cons ?_ .nil)) (.cons (.one (.cold rfl)) .nil))
      have e9 : (rowBk b.length (bankF b)).length = b.length := rowBk_length _ _
      refine ExC.sl_len e9 (.rows rfl trivial (by omega) (fun i hi => ?_))
      rw [Nat.zero_add]
      by_cases hi2 : i = 2
      · subst hi2
        refine .inr ⟨10008, 0, 1, 0, (b.getD 2 []).length, _, _, _, _, u8F ((b.getD 2 []).set nc (pulsed (cellB b 2 (nc : Int)) cut)), ?_, ?_, rfl, trivial, ?_, fun k hk => ⟨?_, rfl⟩⟩
        · change [PC.ow 10008 0 1 0 (rowCell ((rowBk b.length (bankF b)).getD 2 []).length (u8F ((rowBk b.length (bankF b)).getD 2 []))).length] = _
          rw [rowBk_bankF, rowCell_length]
        · rw [pulB_at2 h2b]
          unfold bkPC
          rw [List.length_set]
        · change 0 + (b.getD 2 []).length ≤ (rowCell ((rowBk b.length (bankF b)).getD 2 []).length (u8F ((rowBk b.length (bankF b)).getD 2 []))).length
          rw [rowBk_bankF, rowCell_length]
          omega
        · rw [Nat.zero_add]
          change (if k = 0 + (nc : Int).toNat then [PC.lit (.int .u8 (pulsed (cellB b 2 (nc : Int)) cut))] else u8F (rowCell ((rowBk b.length (bankF b)).getD 2 []).length (u8F ((rowBk b.length (bankF b)).getD 2 []))) k) = _
          rw [rowBk_bankF, rowCell_u8F, Int.toNat_natCast, Nat.zero_add]
          exact u8F_set (by omega)
      · refine .inl ⟨?_, rfl⟩
        rw [if_neg (by rw [Nat.zero_add]; exact hi2), rowBk_bankF]
        exact (pulB_ne hi2).symm
    · have hc2 : (bif cellB b 2 (nc : Int) == 2 then true else cellB b 2 (nc : Int) == 3) = false := hc
      have hx : pulsed (cellB b 2 (nc : Int)) cut = 1 := by
        unfold pulsed
        have h5 : cellB b 2 (nc : Int) ≤ 1 := by
          by_cases h2 : cellB b 2 (nc : Int) = 2
          · rw [h2] at hc2; cases hc2
          · rw [beq_eq_false_iff_ne.2 h2] at hc2
            by_cases h3 : cellB b 2 (nc : Int) = 3
            · rw [h3] at hc2; cases hc2
            · omega
        rw [if_pos h5, hcut]
        rfl
      refine tri_skip ?_
      change Tri _ _ _ _ _
      refine tri_conv (s' := puSt b 2 nc (pulsed (cellB b 2 (nc : Int)) cut)) (fun a w hg => (hg.reset (kT := [1, 2, 4, 8, 10]) (kO := [0, 1]) (by rfl) (by simp)).same ?_ ?_) ?_
      · exact .cons rfl (.cons rfl (.cons rfl (.cons rfl (.cons (congrArg (fun z => lit1 (.int .u8 z)) hx.symm) .nil))))
      · exact .cons (.box rfl) (.cons (.box rfl) .nil)
      refine tri_reg M hI hn (outs := ?_) (s' := ?_) ?_ ?_ ?_ ?_
      rotate_left 2
      · rfl
      · kernel_rfl
      · simp
        omega
      refine tri_reg M hI hn (outs := ?_) (s' := ?_) ?_ ?_ ?_ ?_
      rotate_left 2
      · rfl
      · kernel_rfl
      · simp
        rw [← List.getD_eq_getElem?_getD]
        exact ⟨by omega, by omega, ⟨by omega, hlb _ hlm, fun _ _ => rfl⟩, by omega, by omega⟩
      refine tri_reg M hI hn (outs := ?_) (s' := ?_) ?_ ?_ ?_ ?_
      rotate_left 2
      · rfl
      · kernel_rfl
      · simp
        rw [← List.getD_eq_getElem?_getD]
        omega
      refine tri_reg M hI hn (outs := ?_) (s' := ?_) ?_ ?_ ?_ ?_
      rotate_left 2
      · rfl
      · kernel_rfl
      · simp
      refine tri_ret (fun a w hg => ⟨.inr rfl, _, ?_, hg⟩)
      unfold pulPV fuPC
      rw [pulB_length]
      refine retTo_ex (out := ?_) ?_ ?_ ?_ ?_
      rotate_left 1
      · rfl
      · simp
      · rfl
      refine .tup (.cons (.agg (.cons ?_ .nil)) (.cons (.one (.cold rfl)) .nil))
      have e9 : (rowBk b.length (bankF b)).length = b.length := rowBk_length _ _
      refine ExC.sl_len e9 (.rows rfl trivial (by omega) (fun i hi => ?_))
      rw [Nat.zero_add]
      by_cases hi2 : i = 2
      · subst hi2
        refine .inr ⟨10008, 0, 1, 0, (b.getD 2 []).length, _, _, _, _, u8F ((b.getD 2 []).set nc (pulsed (cellB b 2 (nc : Int)) cut)), ?_, ?_, rfl, trivial, ?_, fun k hk => ⟨?_, rfl⟩⟩
        · change [PC.ow 10008 0 1 0 (rowCell ((rowBk b.length (bankF b)).getD 2 []).length (u8F ((rowBk b.length (bankF b)).getD 2 []))).length] = _
          rw [rowBk_bankF, rowCell_length]
        · rw [pulB_at2 h2b]
          unfold bkPC
          rw [List.length_set]
        · change 0 + (b.getD 2 []).length ≤ (rowCell ((rowBk b.length (bankF b)).getD 2 []).length (u8F ((rowBk b.length (bankF b)).getD 2 []))).length
          rw [rowBk_bankF, rowCell_length]
          omega
        · rw [Nat.zero_add]
          change (if k = 0 + (nc : Int).toNat then [PC.lit (.int .u8 (pulsed (cellB b 2 (nc : Int)) cut))] else u8F (rowCell ((rowBk b.length (bankF b)).getD 2 []).length (u8F ((rowBk b.length (bankF b)).getD 2 []))) k) = _
          rw [rowBk_bankF, rowCell_u8F, Int.toNat_natCast, Nat.zero_add]
          exact u8F_set (by omega)
      · refine .inl ⟨?_, rfl⟩
        rw [if_neg (by rw [Nat.zero_add]; exact hi2), rowBk_bankF]
        exact (pulB_ne hi2).symm
  · have hcut : cut = false := hc
    refine tri_skip ?_
    change Tri _ _ _ _ _
    refine tri_seq ?_
    refine tri_reg M hI hn (outs := ?_) (s' := ?_) ?_ ?_ ?_ ?_
    rotate_left 2
    · rfl
    · kernel_rfl
    · simp
      rw [← List.getD_eq_getElem?_getD]
      omega
    refine tri_reg M hI hn (outs := ?_) (s' := ?_) ?_ ?_ ?_ ?_
    rotate_left 2
    · rfl
    · kernel_rfl
    · simp
    refine tri_cond (b := ?_) ?_ (fun hc => ?_) (fun hc => ?_)
    rotate_left 1
    · rfl
    · have hc2 : (bif cellB b 2 (nc : Int) == 2 then true else cellB b 2 (nc : Int) == 3) = true := hc
      have hx : pulsed (cellB b 2 (nc : Int)) cut = cellB b 2 (nc : Int) := by
        unfold pulsed
        have h5 : ¬ cellB b 2 (nc : Int) ≤ 1 := fun h => by
          by_cases h2 : cellB b 2 (nc : Int) = 2
          · omega
          · rw [beq_eq_false_iff_ne.2 h2] at hc2
            have h3 := eq_of_beq hc2
            omega
        rw [if_neg h5]
      refine tri_region M hI hn (outs := ?_) (s' := ?_) ?_ ?_ ?_ ?_
      rotate_left 2
      · rfl
      · kernel_rfl
      · simp
      change Tri _ _ _ _ _
      refine tri_conv (s' := puSt b 2 nc (pulsed (cellB b 2 (nc : Int)) cut)) (fun a w hg => (hg.reset (kT := [1, 2, 4, 8, 10]) (kO := [0, 1]) (by rfl) (by simp)).same ?_ ?_) ?_
      · exact .cons rfl (.cons rfl (.cons rfl (.cons rfl (.cons (congrArg (fun z => lit1 (.int .u8 z)) hx.symm) .nil))))
      · exact .cons (.box rfl) (.cons (.box rfl) .nil)
      refine tri_reg M hI hn (outs := ?_) (s' := ?_) ?_ ?_ ?_ ?_
      rotate_left 2
      · rfl
      · kernel_rfl
      · simp
        omega
      refine tri_reg M hI hn (outs := ?_) (s' := ?_) ?_ ?_ ?_ ?_
      rotate_left 2
      · rfl
      · kernel_rfl
      · simp
        rw [← List.getD_eq_getElem?_getD]
        exact ⟨by omega, by omega, ⟨by omega, hlb _ hlm, fun _ _ => rfl⟩, by omega, by omega⟩
      refine tri_reg M hI hn (outs := ?_) (s' := ?_) ?_ ?_ ?_ ?_
      rotate_left 2
      · rfl
      · kernel_rfl
      · simp
        rw [← List.getD_eq_getElem?_getD]
        omega
      refine tri_reg M hI hn (outs := ?_) (s' := ?_) ?_ ?_ ?_ ?_
      rotate_left 2
      · rfl
      · kernel_rfl
      · simp
      refine tri_ret (fun a w hg => ⟨.inr rfl, _, ?_, hg⟩)
      unfold pulPV fuPC
      rw [pulB_length]
      refine retTo_ex (out := ?_) ?_ ?_ ?_ ?_
      rotate_left 1
      · rfl
      · simp
      · rfl
      refine .tup (.cons (.agg (.cons ?_ .nil)) (.cons (.one (.cold rfl)) .nil))
      have e9 : (rowBk b.length (bankF b)).length = b.length := rowBk_length _ _
      refine ExC.sl_len e9 (.rows rfl trivial (by omega) (fun i hi => ?_))
      rw [Nat.zero_add]
      by_cases hi2 : i = 2
      · subst hi2
        refine .inr ⟨10008, 0, 1, 0, (b.getD 2 []).length, _, _, _, _, u8F ((b.getD 2 []).set nc (pulsed (cellB b 2 (nc : Int)) cut)), ?_, ?_, rfl, trivial, ?_, fun k hk => ⟨?_, rfl⟩⟩
        · change [PC.ow 10008 0 1 0 (rowCell ((rowBk b.length (bankF b)).getD 2 []).length (u8F ((rowBk b.length (bankF b)).getD 2 []))).length] = _
          rw [rowBk_bankF, rowCell_length]
        · rw [pulB_at2 h2b]
          unfold bkPC
          rw [List.length_set]
        · change 0 + (b.getD 2 []).length ≤ (rowCell ((rowBk b.length (bankF b)).getD 2 []).length (u8F ((rowBk b.length (bankF b)).getD 2 []))).length
          rw [rowBk_bankF, rowCell_length]
          omega
        · rw [Nat.zero_add]
          change (if k = 0 + (nc : Int).toNat then [PC.lit (.int .u8 (pulsed (cellB b 2 (nc : Int)) cut))] else u8F (rowCell ((rowBk b.length (bankF b)).getD 2 []).length (u8F ((rowBk b.length (bankF b)).getD 2 []))) k) = _
          rw [rowBk_bankF, rowCell_u8F, Int.toNat_natCast, Nat.zero_add]
          exact u8F_set (by omega)
      · refine .inl ⟨?_, rfl⟩
        rw [if_neg (by rw [Nat.zero_add]; exact hi2), rowBk_bankF]
        exact (pulB_ne hi2).symm
    · have hc2 : (bif cellB b 2 (nc : Int) == 2 then true else cellB b 2 (nc : Int) == 3) = false := hc
      have hx : pulsed (cellB b 2 (nc : Int)) cut = 2 := by
        unfold pulsed
        have h5 : cellB b 2 (nc : Int) ≤ 1 := by
          by_cases h2 : cellB b 2 (nc : Int) = 2
          · rw [h2] at hc2; cases hc2
          · rw [beq_eq_false_iff_ne.2 h2] at hc2
            by_cases h3 : cellB b 2 (nc : Int) = 3
            · rw [h3] at hc2; cases hc2
            · omega
        rw [if_pos h5, hcut]
        rfl
      refine tri_skip ?_
      change Tri _ _ _ _ _
      refine tri_conv (s' := puSt b 2 nc (pulsed (cellB b 2 (nc : Int)) cut)) (fun a w hg => (hg.reset (kT := [1, 2, 4, 8, 10]) (kO := [0, 1]) (by rfl) (by simp)).same ?_ ?_) ?_
      · exact .cons rfl (.cons rfl (.cons rfl (.cons rfl (.cons (congrArg (fun z => lit1 (.int .u8 z)) hx.symm) .nil))))
      · exact .cons (.box rfl) (.cons (.box rfl) .nil)
      refine tri_reg M hI hn (outs := ?_) (s' := ?_) ?_ ?_ ?_ ?_
      rotate_left 2
      · rfl
      · kernel_rfl
      · simp
        omega
      refine tri_reg M hI hn (outs := ?_) (s' := ?_) ?_ ?_ ?_ ?_
      rotate_left 2
      · rfl
      · kernel_rfl
      · simp
        rw [← List.getD_eq_getElem?_getD]
        exact ⟨by omega, by omega, ⟨by omega, hlb _ hlm, fun _ _ => rfl⟩, by omega, by omega⟩
      refine tri_reg M hI hn (outs := ?_) (s' := ?_) ?_ ?_ ?_ ?_
      rotate_left 2
      · rfl
      · kernel_rfl
      · simp
        rw [← List.getD_eq_getElem?_getD]
        omega
      refine tri_reg M hI hn (outs := ?_) (s' := ?_) ?_ ?_ ?_ ?_
      rotate_left 2
      · rfl
      · kernel_rfl
      · simp
      refine tri_ret (fun a w hg => ⟨.inr rfl, _, ?_, hg⟩)
      unfold pulPV fuPC
      rw [pulB_length]
      refine retTo_ex (out := ?_) ?_ ?_ ?_ ?_
      rotate_left 1
      · rfl
      · simp
      · rfl
      refine .tup (.cons (.agg (.cons ?_ .nil)) (.cons (.one (.cold rfl)) .nil))
      have e9 : (rowBk b.length (bankF b)).length = b.length := rowBk_length _ _
      refine ExC.sl_len e9 (.rows rfl trivial (by omega) (fun i hi => ?_))
      rw [Nat.zero_add]
      by_cases hi2 : i = 2
      · subst hi2
        refine .inr ⟨10008, 0, 1, 0, (b.getD 2 []).length, _, _, _, _, u8F ((b.getD 2 []).set nc (pulsed (cellB b 2 (nc : Int)) cut)), ?_, ?_, rfl, trivial, ?_, fun k hk => ⟨?_, rfl⟩⟩
        · change [PC.ow 10008 0 1 0 (rowCell ((rowBk b.length (bankF b)).getD 2 []).length (u8F ((rowBk b.length (bankF b)).getD 2 []))).length] = _
          rw [rowBk_bankF, rowCell_length]
        · rw [pulB_at2 h2b]
          unfold bkPC
          rw [List.length_set]
        · change 0 + (b.getD 2 []).length ≤ (rowCell ((rowBk b.length (bankF b)).getD 2 []).length (u8F ((rowBk b.length (bankF b)).getD 2 []))).length
          rw [rowBk_bankF, rowCell_length]
          omega
        · rw [Nat.zero_add]
          change (if k = 0 + (nc : Int).toNat then [PC.lit (.int .u8 (pulsed (cellB b 2 (nc : Int)) cut))] else u8F (rowCell ((rowBk b.length (bankF b)).getD 2 []).length (u8F ((rowBk b.length (bankF b)).getD 2 []))) k) = _
          rw [rowBk_bankF, rowCell_u8F, Int.toNat_natCast, Nat.zero_add]
          exact u8F_set (by omega)
      · refine .inl ⟨?_, rfl⟩
        rw [if_neg (by rw [Nat.zero_add]; exact hi2), rowBk_bankF]
        exact (pulB_ne hi2).symm
def pulG : List PV → Option (Prop × PV)
  | [.w (.agg [.sl 1 n f]), .w (.one (.lit (.int .i64 2))), .w (.one (.lit (.int .i64 c))), .w (.one (.lit (.bool cut)))] => some (IsBkRow n f ∧ n ≤ 1000 ∧ (∀ l ∈ rowBk n f, l.length ≤ 100000) ∧ (∀ l ∈ rowBk n f, ∀ x ∈ l, 0 ≤ x ∧ x ≤ 3) ∧ exB (rowBk n f) 2 c = true, pulPV (pulB (rowBk n f) 2 c cut) 0)
  | _ => none
theorem pul_spec : SpecOk Tryd.prog ShaMem 53 (funSpec false pulG) := by
  refine funSpec_ok (call_enters Tryd.func53 (by kernel_rfl) rfl) (fun xs p r hg hp w ok0 vs hI hv => ?_)
  unfold pulG at hg
  split at hg
  · rename_i n f c cut
    cases hg
    obtain ⟨h1, h2, h3, h4, h5⟩ := hp
    obtain ⟨nc, rfl⟩ : ∃ nc : Nat, c = (nc : Int) := ⟨c.toNat, by have := (exB_in h5).2.1; omega⟩
    match vs, hv with
    | [v1, v2, v3, v4], ⟨k1, k2, k3, k4, _⟩ => exact pul_yes2 (rowBk n f) nc cut (by rw [rowBk_length]; exact h2) h3 h4 h5 w ok0 [v1, v2, v3, v4] hI ⟨fu_row h1 k1, k2, k3, k4, trivial⟩
  · cases hg
end Go.Proofs.YtihghljfmlbfhaaDoor.Pv


namespace Go.Proofs.YtihghljfmlbfhaaDoor
open Go.RowKit
theorem acc98_wide : Wide Tryd.prog 98 10 := ⟨⟨_, Tryd.underlying98, rfl⟩, by kernel_rfl⟩
def accV : Array Value := #[.nilFunc, .nilFunc, .func (.func 49) #[] #[], .func (.func 50) #[] #[], .func (.func 49) #[] #[], .func (.func 52) #[] #[],
  .func (.func 54) #[] #[], .func (.func 55) #[] #[], .func (.func 57) #[] #[], .func (.func 58) #[] #[]]
set_option maxRecDepth 100000 in
set_option maxHeartbeats 1000000 in
theorem accesses_any (w : World) : Calls Tryd.prog 37 #[] w fun e w' => e = .returned (.agg accV) ∧ Ext w w' := by
  go_enter Tryd.func37, Tryd.ntmps37
  go_wp2_with (refine wpList_storeB (ty := 98) (t := 98) (x := .tmp 0) (y := .tmp 8) rfl rfl acc98_wide rfl rfl (Blk.new w _ _) rfl rfl (by rw [← Array.all_toList]; rfl) ?_; intro w2 hb2 hc2 hz2)
  refine bodyPost_ret (v := .agg accV) (results_blk acc98_wide rfl hb2 rfl rfl) rfl ⟨rfl, ?_⟩
  exact ((Ext.refl w).alloc _).trans' hc2 (fun _ _ h => h) (fun i hi e => by omega)
end Go.Proofs.YtihghljfmlbfhaaDoor


namespace Go.Proofs.YtihghljfmlbfhaaDoor.Pv
open Go.RowKit
def hwL (h : HwS) : List PC := [.sl 1 h.b.length (bankF h.b), .sl 1 h.f.length (fsF h.f), .bs 16 h.r]
def fltPC (t : Flt) : List PC := [.lit (.bool t.cut), .lit (.int .i64 t.bytes), .lit (.bool t.noise)]
def accA (k c : Int) : Acc := ⟨k, 2, c, noBytes⟩
def hwOf : List PC → Option (Prop × HwS)
  | [.sl 1 n f, .sl 1 m g, .bs 16 r] => some (IsBkRow n f ∧ IsFsRow m g, ⟨rowBk n f, fsRow m g, r⟩)
  | _ => none
theorem r_sl_one {C : Ctx} {n len : Nat} {f : Nat → List PC} {xs : List Value} (h : R C (.sl n len f) xs) : ∃ v, xs = [v] := by cases h; exact ⟨_, rfl⟩
theorem hwOf_rl {C : Ctx} {l : List PC} {p : Prop} {h : HwS} (e : hwOf l = some (p, h)) (hp : p) {xs : List Value} (hr : RL C l xs) : RL C (hwL h) xs := by
  unfold hwOf at e
  split at e
  · rename_i n f m g r
    cases e
    obtain ⟨h1, h2⟩ := hp
    unfold hwL
    dsimp only
    cases hr with
    | cons k1 hr => cases hr with
      | cons k2 hr =>
        obtain ⟨v, rfl⟩ := r_sl_one k1
        refine .cons (bankF_row h1 k1) (.cons ?_ hr)
        rw [fsRow_length]
        exact k2.sl_ext (fsF_row h2)
  · cases e
theorem FunX.convI {P : Program} {I : World → Prop} {f : Nat} {new : Bool} {x : Nat} {t : TypeId} {l l1 l' : List PC} {O : List Acc → Option Res} {dev : Option (List Acc × List Acc)} {stp : List Acc → Prop} {args : List PV} {res : PV} (h : FunX P I f new [⟨x, t, l1, l'⟩] O dev stp args res)
    (hl : ∀ C xs, RL C l xs → RL C l1 xs) : FunX P I f new [⟨x, t, l, l'⟩] O dev stp args res := by
  intro w ok0 vs bl D X0 hM hold hst hpW hO hdv hnd hob hinj hv
  have hS : ∀ b, SX [⟨x, t, l, l'⟩] bl D b ↔ SX [⟨x, t, l1, l'⟩] bl D b := fun b => by
    constructor <;> rintro (h | ⟨o, ho, rfl⟩)
    · exact .inl h
    · obtain rfl := List.mem_singleton.1 ho
      exact .inr ⟨_, List.mem_singleton_self _, rfl⟩
    · exact .inl h
    · obtain rfl := List.mem_singleton.1 ho
      exact .inr ⟨_, List.mem_singleton_self _, rfl⟩
  refine (h w ok0 vs bl D X0 (fun w' hc => hM w' (hc.mono fun b _ hb => (hS b).2 hb)) (fun b hb => hold b ((hS b).2 hb)) hst hpW hO hdv hnd (fun o ho => ?_) (fun o ho o' ho' _ => ?_) hv).mono ?_
  · obtain rfl := List.mem_singleton.1 ho
    obtain ⟨h1, cs, h2, h3⟩ := hob _ (List.mem_singleton_self _)
    exact ⟨h1, cs, h2, hl _ _ h3⟩
  · obtain rfl := List.mem_singleton.1 ho
    obtain rfl := List.mem_singleton.1 ho'
    rfl
  · rintro e w' ⟨h1, h2⟩
    refine ⟨h1.mono fun b _ hb => (hS b).2 hb, ?_⟩
    rcases h2 with ⟨val, rfl, h3, h4, h5⟩ | h2
    · refine .inl ⟨val, rfl, h3, fun o ho => ?_, h5⟩
      obtain rfl := List.mem_singleton.1 ho
      exact h4 ⟨x, t, l1, l'⟩ (List.mem_singleton_self _)
    · exact .inr h2
set_option maxRecDepth 100000 in
theorem onf_fun (k c : Int) : FunOk Tryd.prog ShaMem 49 true [.w (.agg (accPC (accA k c)))] (pvB true) := by
  have M := flNoM (I := ShaMem)
  refine funOk_of Tryd.func49 rfl rfl sha_ext (fun A hS hn hI => ?_)
  refine tri_reg M hI hn (outs := ?_) (s' := ?_) ?_ ?_ ?_ ?_
  rotate_left 2
  · rfl
  · kernel_rfl
  · simp
  refine tri_reg M hI hn (outs := ?_) (s' := ?_) ?_ ?_ ?_ ?_
  rotate_left 2
  · rfl
  · kernel_rfl
  · simp
  refine tri_ret (fun a w hg => ⟨.inr rfl, _, ?_, hg⟩)
  refine retTo_cold (out := ?_) ?_ ?_ ?_ ?_ ?_
  rotate_left 1
  · rfl
  · simp
  · rfl
  · rfl
  refine congrArg pvB (?_ : (noBytes.toList == (⟨#[]⟩ : ByteArray).toList) = true)
  exact beq_self_eq_true _
def onfG : List PV → Option (Prop × PV)
  | [.w (.agg [.lit (.int .i64 _), .lit (.int .i64 b), .lit (.int .i64 _), .lit (.string s)])] => some (b = 2 ∧ s = noBytes, pvB true)
  | _ => none
theorem onf_spec : SpecOk Tryd.prog ShaMem 49 (funSpec true onfG) := by
  refine funSpec_ok (call_enters Tryd.func49 (by kernel_rfl) rfl) (fun xs p r hg hp => ?_)
  unfold onfG at hg
  split at hg
  · cases hg
    obtain ⟨rfl, rfl⟩ := hp
    exact onf_fun _ _
  · cases hg
def dcL : List (Nat × Spec) := [(51, funSpec true frdG), (53, funSpec false pulG)]
theorem dc_ok : ∀ p ∈ dcL, SpecOk Tryd.prog ShaMem p.1 p.2 := by
  intro p hp
  simp only [dcL, List.mem_cons, List.not_mem_nil, or_false] at hp
  rcases hp with rfl | rfl
  · exact frd_spec
  · exact pul_spec
theorem dcM : Mach Tryd.prog ShaMem (find dcL) := ⟨specs_of dc_ok, mixed_⟩
structure CellOk (h : HwS) (c : Int) : Prop where
  ok : HwOk h
  ex : exB h.b 2 c = true
set_option maxRecDepth 100000 in
theorem dread_fun (h : HwS) (k c : Int) (t : Flt) (hc : CellOk h c) : FunX Tryd.prog ShaMem 50 false [⟨px, 34, hwL h, hwL h⟩] (fun _ => none) none (fun _ => False) [pv1 (.pt px 0 0), .w (.agg (accPC (accA k c))), .w (.agg (fltPC t))]
    (.tup [.agg (resPC ⟨fuseBit (cellB h.b 2 c) t.noise, noBytes⟩), .one (.lit (.int .i64 0))]) := by
  have M := dcM
  refine funX_of Tryd.func50 rfl rfl rfl (fun A hn hI => ?_)
  refine tri_reg M hI hn (outs := ?_) (s' := ?_) ?_ ?_ ?_ ?_
  rotate_left 2
  · rfl
  · kernel_rfl
  · simp
  refine tri_reg M hI hn (outs := ?_) (s' := ?_) ?_ ?_ ?_ ?_
  rotate_left 2
  · rfl
  · kernel_rfl
  · simp
  refine tri_reg M hI hn (outs := ?_) (s' := ?_) ?_ ?_ ?_ ?_
  rotate_left 2
  · rfl
  · kernel_rfl
  · simp
  refine tri_ret (fun a w hg => ⟨.inr rfl, _, ⟨?_, (fun o ho => by obtain rfl := List.mem_singleton.1 ho; exact ⟨_, rfl, exL_refl rfl⟩), fun p hp => (by cases hp)⟩, hg⟩)
  refine retTo_cold (out := ?_) ?_ ?_ ?_ ?_ ?_
  rotate_left 1
  · rfl
  · simp
  · rfl
  · rfl
  change PV.tup [.agg [.lit (.int .i64 (if exB (rowBk h.b.length (bankF h.b)) 2 c = true then fuseBit (cellB (rowBk h.b.length (bankF h.b)) 2 c) t.noise else 0)), .lit (.string noBytes)], .one (.lit (.int .i64 (if exB (rowBk h.b.length (bankF h.b)) 2 c = true then 0 else 1)))] = _
  rw [rowBk_bankF, hc.ex, if_pos rfl, if_pos rfl]
  rfl
set_option maxRecDepth 100000 in
theorem dpul_fun (h : HwS) (k c : Int) (t : Flt) (hc : CellOk h c) : FunX Tryd.prog ShaMem 52 false [⟨px, 34, hwL h, hwL { h with b := pulB h.b 2 c t.cut }⟩] (fun _ => none) none (fun _ => False) [pv1 (.pt px 0 0), .w (.agg (accPC (accA k c))), .w (.agg (fltPC t))]
    (.tup [.agg (resPC zeroR), .one (.lit (.int .i64 0))]) := by
  have M := dcM
  refine funX_of Tryd.func52 rfl rfl rfl (fun A hn hI => ?_)
  refine tri_reg M hI hn (outs := ?_) (s' := ?_) ?_ ?_ ?_ ?_
  rotate_left 2
  · rfl
  · kernel_rfl
  · simp
  refine tri_reg M hI hn (outs := ?_) (s' := ?_) ?_ ?_ ?_ ?_
  rotate_left 2
  · rfl
  · kernel_rfl
  · simp
    exact ⟨hc.ok.nb, hc.ok.nc, hc.ok.val, hc.ex⟩
  refine tri_seq ?_
  refine tri_reg M hI hn (outs := ?_) (s' := ?_) ?_ ?_ ?_ ?_
  rotate_left 2
  · rfl
  · kernel_rfl
  · simp
  refine tri_cond (b := ?_) ?_ (fun hc => ?_) (fun hc => ?_)
  rotate_left 1
  · rfl
  · refine tri_region M hI hn (outs := ?_) (s' := ?_) ?_ ?_ ?_ ?_
    rotate_left 2
    · rfl
    · kernel_rfl
    · simp
    change Tri _ _ _ _ _
    refine tri_reg M hI hn (outs := ?_) (s' := ?_) ?_ ?_ ?_ ?_
    rotate_left 2
    · rfl
    · kernel_rfl
    · simp
    refine tri_conv (s' := ⟨[(6, none, pv1 (.pt 2 0 0)), (7, none, pvI 0)], [(px, none, 0, .box 34 (hwL { h with b := pulB h.b 2 c t.cut })), (2, none, 0, .box 74 (resPC zeroR))]⟩) (fun a w hg => (hg.reset (kT := [6, 7]) (kO := [px, 2]) (by rfl) (by simp)).same ?_ ?_) ?_
    · exact .cons rfl (.cons rfl .nil)
    · refine .cons (.box ?_) (.cons (.box rfl) .nil)
      change [PC.sl 1 (pulB (rowBk h.b.length (bankF h.b)) 2 c t.cut).length (bankF (pulB (rowBk h.b.length (bankF h.b)) 2 c t.cut)), .sl 1 h.f.length (fsF h.f), .bs 16 h.r] = _
      rw [rowBk_bankF]
      rfl
    refine tri_ret (fun a w hg => ⟨.inr rfl, _, ⟨?_, (fun o ho => by obtain rfl := List.mem_singleton.1 ho; exact ⟨_, rfl, exL_refl rfl⟩), fun p hp => (by cases hp)⟩, hg⟩)
    refine retTo_cold (out := ?_) ?_ ?_ ?_ ?_ ?_
    rotate_left 1
    · rfl
    · simp
    · rfl
    · rfl
    rfl
  · cases hc
def flA : List PV → Option (Acc × Flt)
  | [.w (.agg [.lit (.int .i64 k), .lit (.int .i64 b), .lit (.int .i64 c), .lit (.string s)]), .w (.agg [.lit (.bool cut), .lit (.int .i64 fb), .lit (.bool nz)])] => some (⟨k, b, c, s⟩, ⟨cut, fb, nz⟩)
  | _ => none
theorem flA_ok {ys : List PV} {a : Acc} {t : Flt} (h : flA ys = some (a, t)) : ys = [.w (.agg (accPC a)), .w (.agg (fltPC t))] := by
  unfold flA at h
  split at h
  · cases h; rfl
  · cases h
def dreadG : List PC → List PV → Option (Prop × List PC × PV) := fun l ys => match hwOf l, flA ys with
  | some (p, h), some (a, t) => some (p ∧ a.bank = 2 ∧ a.bytes = noBytes ∧ CellOk h a.cell, hwL h, .tup [.agg (resPC ⟨fuseBit (cellB h.b 2 a.cell) t.noise, noBytes⟩), .one (.lit (.int .i64 0))])
  | _, _ => none
def dpulG : List PC → List PV → Option (Prop × List PC × PV) := fun l ys => match hwOf l, flA ys with
  | some (p, h), some (a, t) => some (p ∧ a.bank = 2 ∧ a.bytes = noBytes ∧ CellOk h a.cell, hwL { h with b := pulB h.b 2 a.cell t.cut }, .tup [.agg (resPC zeroR), .one (.lit (.int .i64 0))])
  | _, _ => none
theorem dread_spec : SpecOk Tryd.prog ShaMem 50 (ptSpec 34 dreadG) := by
  refine ptSpec_ok (call_enters Tryd.func50 (by kernel_rfl) rfl) (fun l ys p l' r hg hp => ?_)
  unfold dreadG at hg
  cases hq : hwOf l with
  | none => rw [hq] at hg; cases hg
  | some q =>
    cases hy : flA ys with
    | none => rw [hq, hy] at hg; cases hg
    | some y =>
      obtain ⟨p0, h⟩ := q
      obtain ⟨⟨k, b, c, s⟩, t⟩ := y
      rw [hq, hy] at hg
      cases hg
      obtain ⟨h0, h1, h2, h3⟩ := hp
      have h1' : b = 2 := h1
      have h2' : s = noBytes := h2
      subst h1' h2'
      rw [flA_ok hy]
      exact (dread_fun h k c t h3).convI (fun C xs hr => hwOf_rl hq h0 hr)
theorem dpul_spec : SpecOk Tryd.prog ShaMem 52 (ptSpec 34 dpulG) := by
  refine ptSpec_ok (call_enters Tryd.func52 (by kernel_rfl) rfl) (fun l ys p l' r hg hp => ?_)
  unfold dpulG at hg
  cases hq : hwOf l with
  | none => rw [hq] at hg; cases hg
  | some q =>
    cases hy : flA ys with
    | none => rw [hq, hy] at hg; cases hg
    | some y =>
      obtain ⟨p0, h⟩ := q
      obtain ⟨⟨k, b, c, s⟩, t⟩ := y
      rw [hq, hy] at hg
      cases hg
      obtain ⟨h0, h1, h2, h3⟩ := hp
      have h1' : b = 2 := h1
      have h2' : s = noBytes := h2
      subst h1' h2'
      rw [flA_ok hy]
      exact (dpul_fun h k c t h3).convI (fun C xs hr => hwOf_rl hq h0 hr)
def accsPC : List PC := [.lit .nilFunc, .lit .nilFunc, .lit (.func (.func 49) #[] #[]), .lit (.func (.func 50) #[] #[]), .lit (.func (.func 49) #[] #[]), .lit (.func (.func 52) #[] #[]),
  .lit (.func (.func 54) #[] #[]), .lit (.func (.func 55) #[] #[]), .lit (.func (.func 57) #[] #[]), .lit (.func (.func 58) #[] #[])]
theorem accs_fun : FunOk Tryd.prog ShaMem 37 true [] (.w (.agg accsPC)) := by
  intro w ok0 vs hI hv
  match vs, hv with
  | [], _ =>
    refine (accesses_any w).mono ?_
    rintro e w' ⟨rfl, hE⟩
    refine ⟨_, rfl, hE, .w (.agg ?_)⟩
    exact .cons (xs := [_]) (.lit rfl) (.cons (xs := [_]) (.lit rfl) (.cons (xs := [_]) (.lit rfl) (.cons (xs := [_]) (.lit rfl) (.cons (xs := [_]) (.lit rfl) (.cons (xs := [_]) (.lit rfl) (.cons (xs := [_]) (.lit rfl) (.cons (xs := [_]) (.lit rfl) (.cons (xs := [_]) (.lit rfl) (.cons (xs := [_]) (.lit rfl) .nil)))))))))
def accsG : List PV → Option (Prop × PV)
  | [] => some (True, .w (.agg accsPC))
  | _ => none
theorem accs_spec : SpecOk Tryd.prog ShaMem 37 (funSpec true accsG) := by
  refine funSpec_ok (call_enters Tryd.func37 (by kernel_rfl) rfl) (fun xs p r hg hp => ?_)
  unfold accsG at hg
  split at hg
  · cases hg; exact accs_fun
  · cases hg
def ddL : List (Nat × Spec) := [(37, funSpec true accsG), (49, funSpec true onfG), (50, ptSpec 34 dreadG), (52, ptSpec 34 dpulG)]
theorem dd_ok : ∀ p ∈ ddL, SpecOk Tryd.prog ShaMem p.1 p.2 := by
  intro p hp
  simp only [ddL, List.mem_cons, List.not_mem_nil, or_false] at hp
  rcases hp with rfl | rfl | rfl | rfl
  · exact accs_spec
  · exact onf_spec
  · exact dread_spec
  · exact dpul_spec
theorem ddM : Mach Tryd.prog ShaMem (find ddL) := ⟨specs_of dd_ok, mixed_⟩
theorem devDo_rd {h : HwS} {c : Int} {t : Flt} (k : CellOk h c) : devDo h (accA 1 c) t = (h, if t.cut then zeroR else ⟨fuseBit (cellB h.b 2 c) t.noise, noBytes⟩, 0) := by
  unfold devDo accA
  dsimp only
  rw [if_pos rfl, if_pos rfl, if_pos k.ex]
theorem devDo_pul {h : HwS} {c : Int} {t : Flt} (k : CellOk h c) : devDo h (accA 2 c) t = (⟨pulB h.b 2 c t.cut, h.f, h.r⟩, zeroR, 0) := by
  unfold devDo accA
  dsimp only
  rw [if_neg (by decide), if_pos rfl, if_pos rfl, if_pos k.ex]
def ddPV (x : HwS × Res × Int) : PV := .tup [.agg (hwL x.1), .agg (resPC x.2.1), .one (.lit (.int .i64 x.2.2))]
def ddSt (_ h' : HwS) (_ _ : Int) (t : Flt) (r : Res) : St := ⟨[(5, none, pv1 (.pt 2 0 0)), (6, none, pv1 (.pt 3 0 0)), (7, none, pv1 (.pt 4 0 0)), (10, none, pv1 (.pt 4001 0 0)), (11, none, pv1 (.pt 5011 0 0)), (12, none, pvI 0)], [(2, none, 0, .box 42 (fltPC t)), (3, none, 0, .box 34 [.lit (.slice none 0 0), .lit (.slice none 0 0), .bs 16 (List.replicate 16 0)]), (4, none, 0, .box 74 (resPC zeroR)), (4001, none, 0, .box 34 (hwL h')), (5011, none, 0, .box 74 (resPC r))]⟩
set_option maxRecDepth 100000 in
set_option maxHeartbeats 2000000 in
theorem do1_fun (h : HwS) (c : Int) (t : Flt) (hc0 : CellOk h c) : FunOk Tryd.prog ShaMem 24 false [.w (.agg (hwL h)), .w (.agg (accPC (accA 1 c))), .w (.agg (fltPC t))] (ddPV (devDo h (accA 1 c) t)) := by
  have M := ddM
  refine funOk_of Tryd.func24 rfl rfl sha_ext (fun A hS hn hI => ?_)
  refine tri_reg M hI hn (outs := ?_) (s' := ?_) ?_ ?_ ?_ ?_
  rotate_left 2
  · rfl
  · kernel_rfl
  · simp
  refine tri_reg M hI hn (outs := ?_) (s' := ?_) ?_ ?_ ?_ ?_
  rotate_left 2
  · rfl
  · kernel_rfl
  · simp
  refine tri_seq ?_
  refine tri_reg M hI hn (outs := ?_) (s' := ?_) ?_ ?_ ?_ ?_
  rotate_left 2
  · rfl
  · kernel_rfl
  · simp
    exact ⟨fun _ _ => ⟨(by decide : (0 : Int) ≤ 1), (by decide : (1 : Int) < 5)⟩, fun _ _ => ⟨rfl, rfl⟩⟩
  refine tri_cond (b := ?_) ?_ (fun hc => ?_) (fun hc => ?_)
  rotate_left 1
  · rfl
  · simp [accA] at hc
  refine tri_skip ?_
  change Tri _ _ _ _ _
  refine tri_reg M hI hn (outs := ?_) (s' := ?_) ?_ ?_ ?_ ?_
  rotate_left 2
  · rfl
  · kernel_rfl
  · simp
  refine tri_reg M hI hn (outs := ?_) (s' := ?_) ?_ ?_ ?_ ?_
  rotate_left 2
  · rfl
  · kernel_rfl
  · simp
    exact ⟨⟨(by decide : (0 : Int) ≤ 1), (by decide : (1 : Int) < 5)⟩, rfl, rfl, hc0⟩
  refine tri_conv (s' := ddSt h h 1 c t ⟨fuseBit (cellB h.b 2 c) t.noise, noBytes⟩) (fun a w hg => (hg.reset (kT := [5, 6, 7, 10, 11, 12]) (kO := [2, 3, 4, 4001, 5011]) (by rfl) (by simp)).same ?_ ?_) ?_
  · exact .cons rfl (.cons rfl (.cons rfl (.cons rfl (.cons rfl (.cons rfl .nil)))))
  · refine .cons (.box rfl) (.cons (.box rfl) (.cons (.box rfl) (.cons (.box ?_) (.cons (.box ?_) .nil))))
    · change hwL ⟨rowBk h.b.length (bankF h.b), fsRow h.f.length (fsF h.f), h.r⟩ = _
      rw [rowBk_bankF, fsRow_fsF]
    · change resPC ⟨fuseBit (cellB (rowBk h.b.length (bankF h.b)) 2 c) t.noise, noBytes⟩ = _
      first | rw [rowBk_bankF] | rfl
  refine tri_seq ?_
  refine tri_reg M hI hn (outs := ?_) (s' := ?_) ?_ ?_ ?_ ?_
  rotate_left 2
  · rfl
  · kernel_rfl
  · simp
  refine tri_cond (b := ?_) ?_ (fun hc => ?_) (fun hc => ?_)
  rotate_left 1
  · rfl
  · cases hc
  refine tri_skip ?_
  change Tri _ _ _ _ _
  refine tri_seq ?_
  refine tri_reg M hI hn (outs := ?_) (s' := ?_) ?_ ?_ ?_ ?_
  rotate_left 2
  · rfl
  · kernel_rfl
  · simp
  refine tri_cond (b := ?_) ?_ (fun hc => ?_) (fun hc => ?_)
  rotate_left 1
  · rfl
  · have hcut : t.cut = true := hc
    refine tri_region M hI hn (outs := ?_) (s' := ?_) ?_ ?_ ?_ ?_
    rotate_left 2
    · rfl
    · kernel_rfl
    · simp
    change Tri _ _ _ _ _
    refine tri_reg M hI hn (outs := ?_) (s' := ?_) ?_ ?_ ?_ ?_
    rotate_left 2
    · rfl
    · kernel_rfl
    · simp
    rw [devDo_rd hc0]
    refine tri_ret (fun a w hg => ⟨.inr rfl, _, ?_, hg⟩)
    refine retTo_cold (out := ?_) ?_ ?_ ?_ ?_ ?_
    rotate_left 1
    · rfl
    · simp
    · rfl
    · rfl
    rw [hcut]
    rfl
  · have hcut : t.cut = false := hc
    refine tri_skip ?_
    change Tri _ _ _ _ _
    refine tri_reg M hI hn (outs := ?_) (s' := ?_) ?_ ?_ ?_ ?_
    rotate_left 2
    · rfl
    · kernel_rfl
    · simp
    rw [devDo_rd hc0]
    refine tri_ret (fun a w hg => ⟨.inr rfl, _, ?_, hg⟩)
    refine retTo_cold (out := ?_) ?_ ?_ ?_ ?_ ?_
    rotate_left 1
    · rfl
    · simp
    · rfl
    · rfl
    rw [hcut]
    rfl
set_option maxRecDepth 100000 in
set_option maxHeartbeats 2000000 in
theorem do2_fun (h : HwS) (c : Int) (t : Flt) (hc0 : CellOk h c) : FunOk Tryd.prog ShaMem 24 false [.w (.agg (hwL h)), .w (.agg (accPC (accA 2 c))), .w (.agg (fltPC t))] (ddPV (devDo h (accA 2 c) t)) := by
  have M := ddM
  refine funOk_of Tryd.func24 rfl rfl sha_ext (fun A hS hn hI => ?_)
  refine tri_reg M hI hn (outs := ?_) (s' := ?_) ?_ ?_ ?_ ?_
  rotate_left 2
  · rfl
  · kernel_rfl
  · simp
  refine tri_reg M hI hn (outs := ?_) (s' := ?_) ?_ ?_ ?_ ?_
  rotate_left 2
  · rfl
  · kernel_rfl
  · simp
  refine tri_seq ?_
  refine tri_reg M hI hn (outs := ?_) (s' := ?_) ?_ ?_ ?_ ?_
  rotate_left 2
  · rfl
  · kernel_rfl
  · simp
    exact ⟨fun _ _ => ⟨(by decide : (0 : Int) ≤ 2), (by decide : (2 : Int) < 5)⟩, fun _ _ => ⟨rfl, rfl⟩⟩
  refine tri_cond (b := ?_) ?_ (fun hc => ?_) (fun hc => ?_)
  rotate_left 1
  · rfl
  · simp [accA] at hc
  refine tri_skip ?_
  change Tri _ _ _ _ _
  refine tri_reg M hI hn (outs := ?_) (s' := ?_) ?_ ?_ ?_ ?_
  rotate_left 2
  · rfl
  · kernel_rfl
  · simp
  refine tri_reg M hI hn (outs := ?_) (s' := ?_) ?_ ?_ ?_ ?_
  rotate_left 2
  · rfl
  · kernel_rfl
  · simp
    exact ⟨⟨(by decide : (0 : Int) ≤ 2), (by decide : (2 : Int) < 5)⟩, rfl, rfl, hc0⟩
  refine tri_conv (s' := ddSt h ⟨pulB h.b 2 c t.cut, h.f, h.r⟩ 2 c t zeroR) (fun a w hg => (hg.reset (kT := [5, 6, 7, 10, 11, 12]) (kO := [2, 3, 4, 4001, 5011]) (by rfl) (by simp)).same ?_ ?_) ?_
  · exact .cons rfl (.cons rfl (.cons rfl (.cons rfl (.cons rfl (.cons rfl .nil)))))
  · refine .cons (.box rfl) (.cons (.box rfl) (.cons (.box rfl) (.cons (.box ?_) (.cons (.box ?_) .nil))))
    · change hwL ⟨pulB (rowBk h.b.length (bankF h.b)) 2 c t.cut, fsRow h.f.length (fsF h.f), h.r⟩ = _
      rw [rowBk_bankF, fsRow_fsF]
    · change resPC zeroR = _
      first | rw [rowBk_bankF] | rfl
  refine tri_seq ?_
  refine tri_reg M hI hn (outs := ?_) (s' := ?_) ?_ ?_ ?_ ?_
  rotate_left 2
  · rfl
  · kernel_rfl
  · simp
  refine tri_cond (b := ?_) ?_ (fun hc => ?_) (fun hc => ?_)
  rotate_left 1
  · rfl
  · cases hc
  refine tri_skip ?_
  change Tri _ _ _ _ _
  refine tri_seq ?_
  refine tri_reg M hI hn (outs := ?_) (s' := ?_) ?_ ?_ ?_ ?_
  rotate_left 2
  · rfl
  · kernel_rfl
  · simp
  refine tri_cond (b := ?_) ?_ (fun hc => ?_) (fun hc => ?_)
  rotate_left 1
  · rfl
  · have hcut : t.cut = true := hc
    refine tri_region M hI hn (outs := ?_) (s' := ?_) ?_ ?_ ?_ ?_
    rotate_left 2
    · rfl
    · kernel_rfl
    · simp
    change Tri _ _ _ _ _
    refine tri_reg M hI hn (outs := ?_) (s' := ?_) ?_ ?_ ?_ ?_
    rotate_left 2
    · rfl
    · kernel_rfl
    · simp
    rw [devDo_pul hc0]
    refine tri_ret (fun a w hg => ⟨.inr rfl, _, ?_, hg⟩)
    refine retTo_cold (out := ?_) ?_ ?_ ?_ ?_ ?_
    rotate_left 1
    · rfl
    · simp
    · rfl
    · rfl
    rw [hcut]
    rfl
  · have hcut : t.cut = false := hc
    refine tri_skip ?_
    change Tri _ _ _ _ _
    refine tri_reg M hI hn (outs := ?_) (s' := ?_) ?_ ?_ ?_ ?_
    rotate_left 2
    · rfl
    · kernel_rfl
    · simp
    rw [devDo_pul hc0]
    refine tri_ret (fun a w hg => ⟨.inr rfl, _, ?_, hg⟩)
    refine retTo_cold (out := ?_) ?_ ?_ ?_ ?_ ?_
    rotate_left 1
    · rfl
    · simp
    · rfl
    · rfl
    rw [hcut]
    rfl
structure GoodA (h : HwS) (a : Acc) : Prop where
  kind : a.kind = 1 ∨ a.kind = 2
  bank : a.bank = 2
  bytes : a.bytes = noBytes
  cell : CellOk h a.cell
theorem do_good {h : HwS} {a : Acc} (g : GoodA h a) (t : Flt) : FunOk Tryd.prog ShaMem 24 false [.w (.agg (hwL h)), .w (.agg (accPC a)), .w (.agg (fltPC t))] (ddPV (devDo h a t)) := by
  obtain ⟨k, b, c, s⟩ := a
  obtain ⟨h1, h2, h3, h4⟩ := g
  dsimp only at h1 h2 h3 h4
  subst h2 h3
  rcases h1 with rfl | rfl
  · exact do1_fun h c t h4
  · exact do2_fun h c t h4
def ddG : List PV → Option (Prop × PV)
  | .w (.agg l) :: ys => (match hwOf l, flA ys with
    | some (p, h), some (a, t) => some (p ∧ GoodA h a, ddPV (devDo h a t))
    | _, _ => none)
  | _ => none
theorem ddo_spec : SpecOk Tryd.prog ShaMem 24 (funSpec false ddG) := by
  refine funSpec_ok (call_enters Tryd.func24 (by kernel_rfl) rfl) (fun xs p r hg hp => ?_)
  unfold ddG at hg
  split at hg
  · rename_i l ys
    cases hq : hwOf l with
    | none => rw [hq] at hg; cases hg
    | some q =>
      cases hy : flA ys with
      | none => rw [hq, hy] at hg; cases hg
      | some y =>
        obtain ⟨p0, h⟩ := q
        obtain ⟨a, t⟩ := y
        rw [hq, hy] at hg
        cases hg
        rw [flA_ok hy]
        exact (do_good hp.2 t).args fun C vs hv => by
          match vs, hv with
          | [x, y, z], ⟨h0, h1, h2, _⟩ =>
            refine ⟨?_, h1, h2, trivial⟩
            cases h0 with
            | w h3 => cases h3 with
              | agg h4 => exact .w (.agg (hwOf_rl hq hp.1 h4))
  · cases hg
end Go.Proofs.YtihghljfmlbfhaaDoor.Pv
