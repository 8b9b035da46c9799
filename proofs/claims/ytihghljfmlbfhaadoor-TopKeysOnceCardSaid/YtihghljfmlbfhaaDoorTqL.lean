/-
  Several texts in one file: each has its own heading below.
-/
import Derived.Test.YtihghljfmlbfhaaDoorTqI
import Derived.Test.YtihghljfmlbfhaaDoorTqJ
import Derived.Test.YtihghljfmlbfhaaDoorTqK
import Derived.Test.YtihghljfmlbfhaaDoorTqF
import Derived.Test.YtihghljfmlbfhaaDoorTqG
import Derived.Test.YtihghljfmlbfhaaDoorTqA


namespace Go.Proofs.YtihghljfmlbfhaaDoor.Pv
open Go.RowKit
structure Sig where
  index : Int
  chain : List (List UInt8)
  path : List (List UInt8)
  deriving Inhabited
structure Sgd where
  maker : Int
  sig : Sig
  deriving Inhabited
def sigPC (s : Sig) : List PC := [.lit (.int .i64 s.index), .sl 16 s.chain.length (digF s.chain), .sl 16 s.path.length (digF s.path)]
def verS (r : List UInt8) (h : Int) (m : List UInt8) (s : Sig) : Bool :=
  decide (0 ≤ h ∧ h ≤ 4 ∧ 0 ≤ s.index ∧ s.index.toNat < 2 ^ h.toNat ∧ s.chain.length = 68) && verifyS r (2 ^ h.toNat) s.index.toNat (recoverS m (chainAt s.chain)) s.path
def rootT (seed : List UInt8) (h : Int) : List UInt8 × Int := if 0 ≤ h ∧ h ≤ 4 then (rootS (leavesS seed (2 ^ h.toNat)), 0) else (z16, 1)
def sgnT (seed : List UInt8) (h i : Int) (m : List UInt8) : Sig × Int :=
  if ¬ (0 ≤ h ∧ h ≤ 4) ∨ i < 0 then (⟨0, [], []⟩, 1) else if i.toNat < 2 ^ h.toNat then (⟨i, signS seed i m 68, proveS (leavesS seed (2 ^ h.toNat)) i.toNat⟩, 0) else (⟨0, [], []⟩, 17)
theorem verS_no {r m : List UInt8} {h : Int} {s : Sig} (hn : ¬ (0 ≤ h ∧ h ≤ 4 ∧ 0 ≤ s.index ∧ s.index.toNat < 2 ^ h.toNat ∧ s.chain.length = 68)) : verS r h m s = false := by
  unfold verS; rw [decide_eq_false hn]; rfl
theorem verS_yes {r m : List UInt8} {k j : Nat} {s : Sig} (hk : k ≤ 4) (hi : s.index = (j : Int)) (hj : j < 2 ^ k) (hc : s.chain.length = 68) : verS r (k : Int) m s = verifyS r (2 ^ k) j (recoverS m (chainAt s.chain)) s.path := by
  unfold verS
  rw [hi]
  simp only [Int.toNat_natCast]
  rw [decide_eq_true ⟨by omega, by omega, by omega, hj, hc⟩]
  rfl
theorem rootT_len (seed : List UInt8) (h : Int) : (rootT seed h).1.length = 16 := by
  unfold rootT
  split
  · exact rootS_length _
  · rfl
theorem tver_any (root msg : List UInt8) (h : Int) (s : Sig) (cv pv : Value) (w : World) (hM : ShaMem w) (hr : root.length = 16) (hm : msg.length = 16) (hDc : Digs w cv s.chain) (hDp : Digs w pv s.path) (hpl : s.path.length ≤ 1000) :
    Calls Tryd.prog 8 #[.agg (root.map u8v).toArray, .int .i64 h, .agg (msg.map u8v).toArray, .agg #[.int .i64 s.index, cv, pv]] w fun e w' => e = .returned (.bool (verS root h msg s)) ∧ Ext w w' := by
  have _ := hM
  have _ := hpl
  obtain ⟨i, chain, path⟩ := s
  by_cases hi : i < 0
  · rw [verS_no (fun hh => by have := hh.2.2.1; dsimp only at this; omega)]
    by_cases ho : okH h
    · exact tver_neg _ _ h i cv pv w ho hi
    · exact tver_height _ _ h i cv pv w ho
  · by_cases ho : okH h
    · obtain ⟨k, rfl, hk⟩ := okH_cases h ho
      obtain ⟨j, rfl⟩ : ∃ j : Nat, i = (j : Int) := ⟨i.toNat, by omega⟩
      by_cases hj : j < 2 ^ k
      · by_cases hc : chain.length = 68
        · rw [verS_yes hk rfl hj hc]
          exact tver_in root msg k _ rfl hk j hj chain path cv pv w hM hr hm hDc hDp (by dsimp only at hpl; omega) hc
        · rw [verS_no (fun hh => hc hh.2.2.2.2)]
          exact tver_chain root msg k _ rfl hk j hj hm chain cv pv w hDc hc
      · rw [verS_no (fun hh => hj (by have := hh.2.2.2.1; simp only [Int.toNat_natCast] at this; exact this))]
        exact tver_big _ _ k _ rfl hk j cv pv w (by omega)
    · rw [verS_no (fun hh => ho ⟨hh.1, hh.2.1⟩)]
      exact tver_height _ _ h i cv pv w ho
theorem r_digs {C : Ctx} {v : Value} {l : List (List UInt8)} (h : Digs C.w v l) (hb : ∀ k, v.ownBlock = some k → C.ok k) : R C (.sl 16 l.length (digF l)) [v] :=
  .sl h.2 (fun g hg hl => ⟨hb g hg, h.2.own_lt (by omega) hl g hg⟩) (fun i hi => by
    rw [show dcells l = l.flatMap digCells from rfl, flat_win digCells 16 l (fun d hd => by simp [digCells, h.1 d hd]) i hi]
    unfold digF
    rw [List.getD_eq_getElem?_getD, List.getElem?_eq_getElem hi]
    have := RL.cons (C := C.cold) (R.bs (n := 16) (h.1 _ (List.getElem_mem hi))) RL.nil
    rw [List.append_nil] at this
    exact this)
def dgOf : PC → Option (Prop × List (List UInt8))
  | .sl 16 len f => some (IsDRow len f, rowD len f)
  | .lit (.slice none 0 0) => some (True, [])
  | _ => none
theorem dgOf_ok {C : Ctx} {c : PC} {xs : List Value} {p : Prop} {l : List (List UInt8)} (h : dgOf c = some (p, l)) (hp : p) (hr : R C c xs) : ∃ v, xs = [v] ∧ Digs C.w v l := by
  unfold dgOf at h
  split at h
  · rename_i len f
    cases h
    cases hr with
    | sl hr hb he =>
      obtain ⟨e1, e2⟩ := drow_cells hr.1 he hp
      refine ⟨_, rfl, e2, ?_⟩
      rw [← e1, rowD_length]
      exact hr
  · cases h
    cases hr
    exact ⟨_, rfl, D16.nil, Reads.nil _ 16⟩
  · cases h
theorem rv_dig16 {C : Ctx} {bs : List UInt8} {v : Value} (h : RV C (.w (.agg [.bs 16 bs])) v) : bs.length = 16 ∧ v = .agg (bs.map u8v).toArray := rv_dig h
def verG : List PV → Option (Prop × PV)
  | [.w (.agg [.bs 16 r]), .w (.one (.lit (.int .i64 h))), .w (.agg [.bs 16 m]), .w (.agg [.lit (.int .i64 i), cp, pp])] => (match dgOf cp, dgOf pp with
    | some (pc, c), some (pp, p) => some (pc ∧ pp ∧ p.length ≤ 1000, pvB (verS r h m ⟨i, c, p⟩))
    | _, _ => none)
  | _ => none
def rootG : List PV → Option (Prop × PV)
  | [.w (.agg [.bs 16 s]), .w (.one (.lit (.int .i64 h)))] => some (True, .tup [.agg [.bs 16 (rootT s h).1], .one (.lit (.int .i64 (rootT s h).2))])
  | _ => none
def signG : List PV → Option (Prop × PV)
  | [.w (.agg [.bs 16 s]), .w (.one (.lit (.int .i64 h))), .w (.one (.lit (.int .i64 i))), .w (.agg [.bs 16 m])] => some (True, .tup [.agg (sigPC (sgnT s h i m).1), .one (.lit (.int .i64 (sgnT s h i m).2))])
  | _ => none
set_option maxRecDepth 100000 in
theorem tver_spec : SpecOk Tryd.prog ShaMem 8 (funSpec true verG) := by
  refine funSpec_ok (call_enters Tryd.func8 (by kernel_rfl) rfl) (fun xs p r hg hp w ok0 vs hI hv => ?_)
  unfold verG at hg
  split at hg
  · rename_i rt h m i cp pp
    split at hg
    · rename_i pc c pq q e1 e2
      cases hg
      obtain ⟨hp1, hp2, hp3⟩ := hp
      match vs, hv with
      | [v1, v2, v3, v4], ⟨k1, k2, k3, k4, _⟩ =>
        obtain ⟨l1, rfl⟩ := rv_dig16 k1
        obtain rfl := k2.lit_inv
        obtain ⟨l3, rfl⟩ := rv_dig16 k3
        cases k4 with
        | w k4 => cases k4 with
          | @agg _ cs k4 =>
            obtain ⟨cs⟩ := cs
            dsimp only at k4
            cases k4 with
            | cons a1 k4 => cases k4 with
              | cons a2 k4 => cases k4 with
                | cons a3 k4 =>
                  cases k4
                  obtain ⟨cv, rfl, d1⟩ := dgOf_ok e1 hp1 a2
                  obtain ⟨pv, rfl, d2⟩ := dgOf_ok e2 hp2 a3
                  cases a1
                  refine (tver_any rt m h ⟨i, c, q⟩ cv pv w hI l1 l3 d1 d2 hp3).mono ?_
                  rintro e w' ⟨rfl, hE⟩
                  exact ⟨_, rfl, hE, .w (.one (.lit rfl))⟩
    · cases hg
  · cases hg
theorem rv_pair {C : Ctx} {l : List PC} {cs : Array Value} {n : Int} (h : RL C l cs.toList) : RV C (.tup [.agg l, .one (.lit (.int .i64 n))]) (.tuple #[.agg cs, .int .i64 n]) :=
  .tup rfl (fun i x hx => by
    match i, hx with
    | 0, hx => cases hx; exact ⟨_, rfl, .agg h⟩
    | 1, hx => cases hx; exact ⟨_, rfl, .one (.lit rfl)⟩
    | i + 2, hx => cases hx)
set_option maxRecDepth 100000 in
theorem troot_spec : SpecOk Tryd.prog ShaMem 6 (funSpec true rootG) := by
  refine funSpec_ok (call_enters Tryd.func6 (by kernel_rfl) rfl) (fun xs p r hg hp w ok0 vs hI hv => ?_)
  unfold rootG at hg
  split at hg
  · rename_i sd h
    cases hg
    match vs, hv with
    | [v1, v2], ⟨k1, k2, _⟩ =>
      obtain ⟨l1, rfl⟩ := rv_dig16 k1
      obtain rfl := k2.lit_inv
      have hlen := rootT_len sd h
      have key : Calls Tryd.prog 6 #[.agg (sd.map u8v).toArray, .int .i64 h] w fun e w' => e = .returned (.tuple #[.agg ((rootT sd h).1.map u8v).toArray, .int .i64 (rootT sd h).2]) ∧ Ext w w' := by
        by_cases ho : okH h
        · obtain ⟨k, rfl, hk⟩ := okH_cases h ho
          have e : rootT sd (k : Int) = (rootS (leavesS sd (2 ^ k)), 0) := by
            unfold rootT
            rw [if_pos ⟨by omega, by omega⟩, Int.toNat_natCast]
          rw [e]
          exact troot_yes sd k _ rfl hk w l1 hI
        · have e : rootT sd h = (z16, 1) := by
            unfold rootT
            rw [if_neg (show ¬ (0 ≤ h ∧ h ≤ 4) from ho)]
          rw [e]
          exact troot_no sd h w ho
      refine key.mono ?_
      rintro e w' ⟨rfl, hE⟩
      refine ⟨_, rfl, hE, rv_pair ?_⟩
      have := RL.cons (C := { w := w', ok := fun b => (true = false ∧ ok0 b) ∨ w.heap.size ≤ b, env := fun _ => none }) (R.bs (n := 16) hlen) RL.nil
      rw [List.append_nil] at this
      exact this
  · cases hg
theorem sigPC_rl {C : Ctx} {i : Int} {cv pv : Value} {chain path : List (List UInt8)} (h1 : Digs C.w cv chain) (h2 : Digs C.w pv path) (h3 : ∀ k, cv.ownBlock = some k → C.ok k) (h4 : ∀ k, pv.ownBlock = some k → C.ok k) : RL C (sigPC ⟨i, chain, path⟩) [.int .i64 i, cv, pv] :=
  .cons (xs := [_]) (.lit rfl) (.cons (xs := [_]) (r_digs h1 h3) (.cons (xs := [_]) (r_digs h2 h4) .nil))
theorem sigPC_nil {C : Ctx} : RL C (sigPC ⟨0, [], []⟩) [.int .i64 0, .slice none 0 0, .slice none 0 0] :=
  sigPC_rl (Digs.nil _) (Digs.nil _) (fun _ h => by cases h) (fun _ h => by cases h)
end Go.Proofs.YtihghljfmlbfhaaDoor.Pv


namespace Go.Proofs.YtihghljfmlbfhaaDoor
open Go.RowKit
structure PI (B bw bp : Nat) (ds : List (List UInt8)) (w : World) : Prop where
  mem : ShaMem w
  low : 1 < B ∧ 0 < B
  lt : B ≤ bp ∧ bp < bw
  walk : Blk w bw 144 #[.func (.func 76) #[] #[.pointer (some ⟨bw, 0, none⟩), .pointer (some ⟨bp, 0, none⟩)]]
  proof : ∃ A c, Blk w bp 43 #[.slice A ds.length c] ∧ w.ownsRow (bw + 1) 23 16 (.slice A ds.length c) ds.length (dcells ds)
  all : D16 ds
theorem PI.ext {B bw bp : Nat} {ds : List (List UInt8)} {w w' : World} (h : PI B bw bp ds w) (hE : Ext w w') : PI B bw bp ds w' := by
  obtain ⟨A, c, h1, h2⟩ := h.proof
  exact ⟨h.mem.ext hE, h.low, h.lt, h.walk.ext hE, ⟨A, c, h1.ext hE, ownsRow_ext h2 hE⟩, h.all⟩
theorem PI.step {B bw bp : Nat} {ds : List (List UInt8)} {d : List UInt8} {w w2 w3 : World} (h : PI B bw bp ds w) (hd : d.length = 16) (hE : Ext w w2) {A : Option Addr} {c : Nat} (hb : Blk w bp 43 #[.slice A ds.length c]) (ho0 : w.ownsRow (bw + 1) 23 16 (.slice A ds.length c) ds.length (dcells ds))
    (hc : Chg (fun k => (Value.slice A ds.length c).ownBlock = some k) w2 w3) {A' : Option Addr} {c' : Nat} (ho : w3.ownsRow (bw + 1) 23 16 (.slice A' (ds.length + 1) c') (ds.length + 1) (dcells ds ++ d.map u8v)) :
    PI B bw bp (ds ++ [d]) (w3.setCell ⟨bp, 0, none⟩ (.slice A' (ds.length + 1) c')) ∧ Chg (fun k => B ≤ k) w2 (w3.setCell ⟨bp, 0, none⟩ (.slice A' (ds.length + 1) c')) := by
  have h2 := h.ext hE
  have hlt := h.lt
  have hlow := h.low
  have hS : ∀ k, (Value.slice A ds.length c).ownBlock = some k → bw + 1 ≤ k := fun k hk => (ho0.lt k hk).1
  have hC : Chg (fun k => B ≤ k) w2 (w3.setCell ⟨bp, 0, none⟩ (.slice A' (ds.length + 1) c')) := (hc.mono fun k _ hk => by have := hS k hk; omega).setCell (p := ⟨bp, 0, none⟩) (.inl (by show B ≤ bp; omega)) _
  refine ⟨⟨h2.mem.chg hC (by omega) (by omega), hlow, hlt, ?_, ⟨A', c', ?_, ?_⟩, h.all.append (D16.one hd)⟩, hC⟩
  · exact ((h2.walk.chg hc (fun e => by have := hS _ e; omega)).far' (by omega) _ _)
  · have := ((hb.ext hE).chg hc (fun e => by have := hS _ e; omega)).set_ 0 (.slice A' (ds.length + 1) c')
    rw [List.length_append]
    exact this
  · rw [dcells_append, dcells_one, List.length_append]
    refine ownsRow_chg ho (Chg.setCell (Chg.refl (fun k => k = bp) w3) (p := ⟨bp, 0, none⟩) (.inl rfl) _) (fun k hk => ?_)
    have := (ho.lt k hk).1
    omega
set_option maxRecDepth 100000 in
set_option maxHeartbeats 4000000 in
theorem walk_any (B bw bp : Nat) (N : Nat) : ∀ (l ds : List (List UInt8)) (i : Nat) (lv : Value) (w : World), l.length ≤ N → i < l.length → l.length + ds.length ≤ 100000 → Digs w lv l → (∀ k, lv.ownBlock = some k → k < B) → PI B bw bp ds w →
    Calls Tryd.prog 76 #[lv, .int .i64 (i : Int), .pointer (some ⟨bw, 0, none⟩), .pointer (some ⟨bp, 0, none⟩)] w fun e w' => e = .returned (.tuple #[]) ∧ PI B bw bp (ds ++ proveS l i) w' ∧ Chg (fun k => B ≤ k) w w' := by
  induction N with
  | zero => intro l ds i lv w h1 h2; omega
  | succ N ih =>
    intro l ds i lv w hN hi h5 hD hlv hP
    by_cases h1 : l.length = 1
    · obtain ⟨A, c, rfl, _, _⟩ := hD.form
      have HP := hide (show PI B bw bp (ds ++ proveS l i) w from by rw [proveS_one l i (by omega), List.append_nil]; exact hP)
      rw [h1]
      clear hD hP ih hlv
      go_enter Tryd.func76, Tryd.ntmps76
      go_wp2_with fail
      refine bodyPost_ret (results_none rfl _ _ _) rfl ?_
      exact ⟨rfl, unhide HP, Chg.refl _ _⟩
    · have hb := splitS_bounds l.length (by omega)
      have HSp := hide (fun W => split_any l.length W (by omega) (by omega))
      obtain ⟨b, o, c, rfl, hc1, hc2, hbl, hL, hRt⟩ := hD.parts (by omega) hb.1 hb.2
      have hbB : b < B := hlv b rfl
      have hll : (l.take (splitS l.length)).length = splitS l.length := by rw [List.length_take]; omega
      have hrl : (l.drop (splitS l.length)).length = l.length - splitS l.length := by rw [List.length_drop]
      have HDL := hide (hL (splitS l.length) (by omega) (by omega))
      have HDR := hide (hRt (l.length - splitS l.length) (by omega) (by omega))
      have hnI : ¬ (l.length : Int) = 1 := by omega
      have HP := hide hP
      have HM := hide (And.intro hP.mem (And.intro hP.low hP.lt))
      have hwc : w.cell? ⟨bw, 0, none⟩ = some (.func (.func 76) #[] #[.pointer (some ⟨bw, 0, none⟩), .pointer (some ⟨bp, 0, none⟩)]) := by rw [hP.walk.cell]; rfl
      have hcall := call_enters Tryd.func76 (by kernel_rfl) rfl
      have hk1 : splitS l.length ≤ l.length := by omega
      have hk2 : splitS l.length ≤ c := by omega
      have hk3 : ¬ l.length = splitS l.length := by omega
      have hk4 : ¬ c = splitS l.length := by omega
      unfold maxLen at hc2
      by_cases hk : i < splitS l.length
      · have HQ := hide (proveS_left l i (by omega) hk)
        have HW := hide (fun W (hD : Digs W (.slice (some ⟨b, o, none⟩) (splitS l.length) (splitS l.length)) (l.take (splitS l.length))) (hP : PI B bw bp ds W) => ih (l.take (splitS l.length)) ds i (.slice (some ⟨b, o, none⟩) (splitS l.length) (splitS l.length)) W (by omega) (by omega) (by omega) hD (fun k hk => by cases hk; exact hbB) hP)
        obtain ⟨ro, hro⟩ : ∃ r, rootS (l.drop (splitS l.length)) = r := ⟨_, rfl⟩
        have HRt := hide (fun W (hC : Chg (fun k => B ≤ k) w W) => root_any (l.drop (splitS l.length)).length (l.drop (splitS l.length)) (.slice (some ⟨b, o + splitS l.length * 16, none⟩) (l.length - splitS l.length) (l.length - splitS l.length)) W ((unhide HM).1.chg hC (by have := (unhide HM).2.1; omega) (by have := (unhide HM).2.1; omega)) (Nat.le_refl _) (by omega) ((unhide HDR).chg hC (fun k hk e => by simp only [Value.ownBlock, Option.some.injEq] at hk; omega)))
        have hkI : (i : Int) < ((splitS l.length : Nat) : Int) := by omega
        have hle : l.length + ds.length ≤ 100000 := h5
        clear hD hP ih hlv hL hRt
        go_enter Tryd.func76, Tryd.ntmps76
        go_upto_region 3 with (go_at_call 20; refine (unhide HSp _).mono ?_; rintro e wz ⟨rfl, rfl⟩)
        refine wp_region_held_drew (S := fun _ => True) (by kernel_rfl) trivial (fun hHeld => ?_)
        refine wpAnyH_take (i := 0) (oi := _) (v := ?_) rfl (by kernel_rfl) (by kernel_rfl) (by kernel_rfl) (fun _ _ _ h => h) (Or.inl ⟨by rfl, fun wz hSz => ?_⟩) (by assumption) ?_
        rotate_left
        · (first | (go_simp; done) | (go_simp; with_reducible rfl))
        try simp only [Act.put, List.setIfInBounds_toArray, List.set_cons_zero, List.set_cons_succ, List.getElem_toArray, List.getElem_cons_zero]
        refine wpAnyH_take (i := 1) (oi := _) (v := ?_) rfl (by kernel_rfl) (by kernel_rfl) (by kernel_rfl) (fun _ _ _ h => h) (Or.inl ⟨by rfl, fun wz hSz => ?_⟩) (by assumption) ?_
        rotate_left
        · (first | (go_simp; done) | (go_simp; with_reducible rfl))
        try simp only [Act.put, List.setIfInBounds_toArray, List.set_cons_zero, List.set_cons_succ, List.getElem_toArray, List.getElem_cons_succ, List.getElem_cons_zero]
        refine wpAnyH_take (i := 2) (oi := _) (v := ?_) rfl (by kernel_rfl) (by kernel_rfl) (by kernel_rfl) (fun _ _ _ h => h) (Or.inl ⟨by rfl, fun wz hSz => ?_⟩) (by assumption) ?_
        rotate_left
        · (first | (go_simp; done) | (go_simp; with_reducible rfl))
        try simp only [Act.put, List.setIfInBounds_toArray, List.set_cons_zero, List.set_cons_succ, List.getElem_toArray, List.getElem_cons_succ, List.getElem_cons_zero]
        refine wpAnyH_take (i := 3) (oi := _) (v := ?_) rfl (by kernel_rfl) (by kernel_rfl) (by kernel_rfl) (fun _ _ _ h => h) (Or.inl ⟨by rfl, fun wz hSz => ?_⟩) (by assumption) ?_
        rotate_left
        · (first | (go_simp; done) | (go_simp; with_reducible rfl))
        try simp only [Act.put, List.setIfInBounds_toArray, List.set_cons_zero, List.set_cons_succ, List.getElem_toArray, List.getElem_cons_succ, List.getElem_cons_zero]
        refine wpAnyH_take (i := 4) (oi := _) (v := ?_) rfl (by kernel_rfl) (by kernel_rfl) (by kernel_rfl) (fun _ _ _ h => h) (Or.inl ⟨by rfl, fun wz hSz => ?_⟩) (by assumption) ?_
        rotate_left
        · (first | (go_simp; done) | (go_simp; with_reducible rfl))
        try simp only [Act.put, List.setIfInBounds_toArray, List.set_cons_zero, List.set_cons_succ, List.getElem_toArray, List.getElem_cons_succ, List.getElem_cons_zero]
        refine wpAnyH_take (i := 5) (oi := _) (v := ?_) rfl (by kernel_rfl) (by kernel_rfl) (by kernel_rfl) (fun _ _ _ h => h) (Or.inl ⟨by rfl, fun wz hSz => ?_⟩) (by assumption) ?_
        rotate_left
        · (first | (go_simp; done) | (go_simp; with_reducible rfl))
        try simp only [Act.put, List.setIfInBounds_toArray, List.set_cons_zero, List.set_cons_succ, List.getElem_toArray, List.getElem_cons_succ, List.getElem_cons_zero]
        refine wpAnyH_take (i := 6) (oi := _) (v := ?_) rfl (by kernel_rfl) (by kernel_rfl) (by kernel_rfl) (fun _ _ _ h => h) (Or.inl ⟨by rfl, fun wz hSz => ?_⟩) (by assumption) ?_
        rotate_left
        · (first | (go_simp; done) | (go_simp; with_reducible rfl))
        try simp only [Act.put, List.setIfInBounds_toArray, List.set_cons_zero, List.set_cons_succ, List.getElem_toArray, List.getElem_cons_succ, List.getElem_cons_zero]
        refine wpAnyH_take (i := 7) (oi := _) (v := ?_) rfl (by kernel_rfl) (by kernel_rfl) (by kernel_rfl) (fun _ _ _ h => h) (Or.inl ⟨by rfl, fun wz hSz => ?_⟩) (by assumption) ?_
        rotate_left
        · (first | (go_simp; done) | (go_simp; with_reducible rfl))
        try simp only [Act.put, List.setIfInBounds_toArray, List.set_cons_zero, List.set_cons_succ, List.getElem_toArray, List.getElem_cons_succ, List.getElem_cons_zero]
        refine wpAnyH_take (i := 8) (oi := _) (v := ?_) rfl (by kernel_rfl) (by kernel_rfl) (by kernel_rfl) (fun _ _ _ h => h) (Or.inl ⟨by rfl, fun wz hSz => ?_⟩) (by assumption) ?_
        rotate_left
        · (first | (go_simp; done) | (go_simp; with_reducible rfl))
        try simp only [Act.put, List.setIfInBounds_toArray, List.set_cons_zero, List.set_cons_succ, List.getElem_toArray, List.getElem_cons_succ, List.getElem_cons_zero]
        refine wpAnyH_take (i := 9) (oi := _) (v := ?_) rfl (by kernel_rfl) (by kernel_rfl) (by kernel_rfl) (fun _ _ _ h => h) (Or.inl ⟨by rfl, fun wz hSz => ?_⟩) (by assumption) ?_
        rotate_left
        · (first | (go_simp; done) | (go_simp; with_reducible rfl))
        try simp only [Act.put, List.setIfInBounds_toArray, List.set_cons_zero, List.set_cons_succ, List.getElem_toArray, List.getElem_cons_succ, List.getElem_cons_zero]
        refine wpAnyH_take (i := 10) (oi := _) (v := ?_) rfl (by kernel_rfl) (by kernel_rfl) (by kernel_rfl) (fun _ _ _ h => h) (Or.inl ⟨by rfl, fun wz hSz => ?_⟩) (by assumption) ?_
        rotate_left
        · (first | (go_simp; done) | (go_simp; with_reducible rfl))
        try simp only [Act.put, List.setIfInBounds_toArray, List.set_cons_zero, List.set_cons_succ, List.getElem_toArray, List.getElem_cons_succ, List.getElem_cons_zero]
        refine wpAnyH_done (by kernel_rfl) ?_ _
        go_wp2_with fail
        refine (unhide HW _ ((unhide HDL).ext (Ext.refl _).drew) ((unhide HP).ext (Ext.refl _).drew)).mono ?_
        rintro e w1 ⟨rfl, hP1, hC1⟩
        have H1 := hide (And.intro hP1 ((Chg.refl (fun k => B ≤ k) w).drew.trans hC1))
        obtain ⟨A, c1, hbp, hown⟩ := hP1.proof
        have hgp := hP1.lt
        have HBO := hide (And.intro hbp hown)
        have HL16 := hide (show ro.length = 16 from by rw [← hro]; exact rootS_length _)
        have HPL := hide (prove_le l.length (l.take (splitS l.length)) (i) (by omega))
        have hpl : (ds ++ proveS (l.take (splitS l.length)) (i)).length ≤ 100000 := by have := unhide HPL; rw [List.length_append]; omega
        have HQ2 := hide (show ds ++ proveS l i = (ds ++ proveS (l.take (splitS l.length)) (i)) ++ [ro] from by rw [unhide HQ, List.append_assoc, hro])
        generalize ds ++ proveS (l.take (splitS l.length)) (i) = ds1 at *
        have HF : Hid (∀ W, Chg (fun k => bw + 1 ≤ k) w1 W → W.cell? ⟨bp, 0, none⟩ = some (.slice A ds1.length c1)) := hide (fun W hW => by rw [(hbp.chg hW (by omega)).cell]; rfl)
        clear hbp hown hP1 hC1
        go_upto_region 6 with fail
        refine wp_region_key 5 (Chg (fun k => bw + 1 ≤ k) w1) (by kernel_rfl) ((Chg.refl _ _).drew) (fun hHeld => ?_)
        refine wpAnyK_take (i := 0) (oi := _) (v := ?_) rfl (by kernel_rfl) (by kernel_rfl) (by kernel_rfl) (by kernel_rfl) (by kernel_rfl) (fun _ _ _ h => h) (Or.inl ⟨by rfl, fun wz hSz => ?_⟩) (by assumption) ?_
        rotate_left
        · (first | (go_simp; done) | (go_simp; with_reducible rfl) | (obtain f1 := (unhide HF) wz hSz; clear hSz; first | (go_simp; done) | (go_simp; with_reducible rfl)))
        try simp only [Act.put, List.setIfInBounds_toArray, List.set_cons_zero, List.set_cons_succ, List.getElem_toArray, List.getElem_cons_zero]
        refine wpAnyK_take (i := 1) (oi := _) (v := ?_) rfl (by kernel_rfl) (by kernel_rfl) (by kernel_rfl) (by kernel_rfl) (by kernel_rfl) (fun _ _ _ h => h) (Or.inl ⟨by rfl, fun wz hSz => ?_⟩) (by assumption) ?_
        rotate_left
        · (first | (go_simp; done) | (go_simp; with_reducible rfl) | (obtain f1 := (unhide HF) wz hSz; clear hSz; first | (go_simp; done) | (go_simp; with_reducible rfl)))
        try simp only [Act.put, List.setIfInBounds_toArray, List.set_cons_zero, List.set_cons_succ, List.getElem_toArray, List.getElem_cons_succ, List.getElem_cons_zero]
        refine wpAnyK_ready (rs := [2]) (by kernel_rfl) (by simp) (AllReadyK.cons (o := _) rfl (fun K hK => ?_) AllReadyK.nil)
        try go_simp
        (refine (unhide HRt _ ((unhide H1).2.drew)).mono ?_; rintro e w3 ⟨rfl, hE3⟩; rw [hro]; have hS : Chg (fun k => bw + 1 ≤ k) w1 w3 := hHeld.ext hE3; have H3 := hide ((Ext.refl w1).drew.trans hE3); clear hHeld hE3)
        refine hK.out _ _ ?_ (fun hHeld => ?_)
        · exact hS
        clear hK K
        try simp only [Act.put, List.setIfInBounds_toArray, List.set_cons_zero, List.set_cons_succ, List.getElem_toArray, List.getElem_cons_succ, List.getElem_cons_zero]
        refine wpAnyK_ready (rs := [3]) (by kernel_rfl) (by simp) (AllReadyK.cons (o := _) rfl (fun K hK => ?_) AllReadyK.nil)
        (rw [if_pos (by rfl)]; refine wp_build1 (t := 43) (x := .tmp 34) digs_row (by omega) rfl rfl (by simpa using unhide HL16) ?_; have hS := hHeld.alloc (.cells (ro.map u8v).toArray 23); clear hHeld)
        refine hK.out _ _ ?_ (fun hHeld => ?_)
        · exact hS
        clear hK K
        try simp only [Act.put, List.setIfInBounds_toArray, List.set_cons_zero, List.set_cons_succ, List.getElem_toArray, List.getElem_cons_succ, List.getElem_cons_zero]
        refine wpAnyK_ready (rs := [4]) (by kernel_rfl) (by simp) (AllReadyK.cons (o := _) rfl (fun K hK => ?_) AllReadyK.nil)
        (refine step_app rfl rfl digs_row rfl (ownsRow_ext (unhide HBO).2 ((unhide H3).alloc _)) rfl (Reads.newD _ _ _ (unhide HL16) rfl) (AllOne.u8 ro) (by omega) (by have := (unhide HBO).1.lt; have := (unhide H1).1.walk.lt; have := (unhide H3).size'; simp; omega) ?_; intro A' c' w4 ho hc4 hv; have hS : Chg (fun k => bw + 1 ≤ k) w1 w4 := hHeld.trans (hc4.mono fun k _ hk => ((unhide HBO).2.lt k hk).1); have H4 := hide ((unhide H1).1.step (unhide HL16) ((unhide H3).alloc _) (unhide HBO).1 (unhide HBO).2 hc4 ho); have cb := unhide HF w4 hS; have fb := ((unhide HBO).1.chg hS (by omega)).frozen 0; have H34 := hide ((unhide H1).2.trans (((unhide H3).alloc (.cells (ro.map u8v).toArray 23)).chg)); clear ho hc4 hv hHeld)
        refine hK.out _ _ ?_ (fun hHeld => ?_)
        · exact hS
        clear hK K
        try simp only [Act.put, List.setIfInBounds_toArray, List.set_cons_zero, List.set_cons_succ, List.getElem_toArray, List.getElem_cons_succ, List.getElem_cons_zero]
        refine wpAnyK_ready (rs := [5]) (by kernel_rfl) (by simp) (AllReadyK.key (o := _) (by kernel_rfl) rfl (fun K hK => ?_))
        go_simp
        refine hK.out _ _ trivial (fun _ => ?_)
        clear hK K
        try simp only [Act.put, List.setIfInBounds_toArray, List.set_cons_zero, List.set_cons_succ, List.getElem_toArray, List.getElem_cons_succ, List.getElem_cons_zero]
        refine wpAnyK_done (by kernel_rfl) ?_ _
        go_wp2
        first | (refine bodyPost_ret (results_none rfl _ _ _) rfl ?_) | go_end0
        exact ⟨rfl, by rw [unhide HQ2]; exact (unhide H4).1, (unhide H34).trans (unhide H4).2⟩
      · have HQ := hide (proveS_right l i (by omega) hk)
        have HW := hide (fun W (hD : Digs W (.slice (some ⟨b, o + splitS l.length * 16, none⟩) (l.length - splitS l.length) (l.length - splitS l.length)) (l.drop (splitS l.length))) (hP : PI B bw bp ds W) => ih (l.drop (splitS l.length)) ds (i - splitS l.length) (.slice (some ⟨b, o + splitS l.length * 16, none⟩) (l.length - splitS l.length) (l.length - splitS l.length)) W (by omega) (by omega) (by omega) hD (fun k hk => by cases hk; exact hbB) hP)
        obtain ⟨ro, hro⟩ : ∃ r, rootS (l.take (splitS l.length)) = r := ⟨_, rfl⟩
        have HRt := hide (fun W (hC : Chg (fun k => B ≤ k) w W) => root_any (l.take (splitS l.length)).length (l.take (splitS l.length)) (.slice (some ⟨b, o, none⟩) (splitS l.length) (splitS l.length)) W ((unhide HM).1.chg hC (by have := (unhide HM).2.1; omega) (by have := (unhide HM).2.1; omega)) (Nat.le_refl _) (by omega) ((unhide HDL).chg hC (fun k hk e => by simp only [Value.ownBlock, Option.some.injEq] at hk; omega)))
        have hkI : ¬ (i : Int) < ((splitS l.length : Nat) : Int) := by omega
        have eki : ((i - splitS l.length : Nat) : Int) = (i : Int) - ((splitS l.length : Nat) : Int) := by omega
        rw [eki] at HW
        have hle : l.length + ds.length ≤ 100000 := h5
        clear hD hP ih hlv hL hRt
        go_enter Tryd.func76, Tryd.ntmps76
        go_upto_region 3 with (go_at_call 20; refine (unhide HSp _).mono ?_; rintro e wz ⟨rfl, rfl⟩)
        refine wp_region_held_drew (S := fun _ => True) (by kernel_rfl) trivial (fun hHeld => ?_)
        refine wpAnyH_take (i := 0) (oi := _) (v := ?_) rfl (by kernel_rfl) (by kernel_rfl) (by kernel_rfl) (fun _ _ _ h => h) (Or.inl ⟨by rfl, fun wz hSz => ?_⟩) (by assumption) ?_
        rotate_left
        · (first | (go_simp; done) | (go_simp; with_reducible rfl))
        try simp only [Act.put, List.setIfInBounds_toArray, List.set_cons_zero, List.set_cons_succ, List.getElem_toArray, List.getElem_cons_zero]
        refine wpAnyH_take (i := 1) (oi := _) (v := ?_) rfl (by kernel_rfl) (by kernel_rfl) (by kernel_rfl) (fun _ _ _ h => h) (Or.inl ⟨by rfl, fun wz hSz => ?_⟩) (by assumption) ?_
        rotate_left
        · (first | (go_simp; done) | (go_simp; with_reducible rfl))
        try simp only [Act.put, List.setIfInBounds_toArray, List.set_cons_zero, List.set_cons_succ, List.getElem_toArray, List.getElem_cons_succ, List.getElem_cons_zero]
        refine wpAnyH_take (i := 2) (oi := _) (v := ?_) rfl (by kernel_rfl) (by kernel_rfl) (by kernel_rfl) (fun _ _ _ h => h) (Or.inl ⟨by rfl, fun wz hSz => ?_⟩) (by assumption) ?_
        rotate_left
        · (first | (go_simp; done) | (go_simp; with_reducible rfl))
        try simp only [Act.put, List.setIfInBounds_toArray, List.set_cons_zero, List.set_cons_succ, List.getElem_toArray, List.getElem_cons_succ, List.getElem_cons_zero]
        refine wpAnyH_take (i := 3) (oi := _) (v := ?_) rfl (by kernel_rfl) (by kernel_rfl) (by kernel_rfl) (fun _ _ _ h => h) (Or.inl ⟨by rfl, fun wz hSz => ?_⟩) (by assumption) ?_
        rotate_left
        · (first | (go_simp; done) | (go_simp; with_reducible rfl))
        try simp only [Act.put, List.setIfInBounds_toArray, List.set_cons_zero, List.set_cons_succ, List.getElem_toArray, List.getElem_cons_succ, List.getElem_cons_zero]
        refine wpAnyH_take (i := 4) (oi := _) (v := ?_) rfl (by kernel_rfl) (by kernel_rfl) (by kernel_rfl) (fun _ _ _ h => h) (Or.inl ⟨by rfl, fun wz hSz => ?_⟩) (by assumption) ?_
        rotate_left
        · (first | (go_simp; done) | (go_simp; with_reducible rfl))
        try simp only [Act.put, List.setIfInBounds_toArray, List.set_cons_zero, List.set_cons_succ, List.getElem_toArray, List.getElem_cons_succ, List.getElem_cons_zero]
        refine wpAnyH_take (i := 5) (oi := _) (v := ?_) rfl (by kernel_rfl) (by kernel_rfl) (by kernel_rfl) (fun _ _ _ h => h) (Or.inl ⟨by rfl, fun wz hSz => ?_⟩) (by assumption) ?_
        rotate_left
        · (first | (go_simp; done) | (go_simp; with_reducible rfl))
        try simp only [Act.put, List.setIfInBounds_toArray, List.set_cons_zero, List.set_cons_succ, List.getElem_toArray, List.getElem_cons_succ, List.getElem_cons_zero]
        refine wpAnyH_take (i := 6) (oi := _) (v := ?_) rfl (by kernel_rfl) (by kernel_rfl) (by kernel_rfl) (fun _ _ _ h => h) (Or.inl ⟨by rfl, fun wz hSz => ?_⟩) (by assumption) ?_
        rotate_left
        · (first | (go_simp; done) | (go_simp; with_reducible rfl))
        try simp only [Act.put, List.setIfInBounds_toArray, List.set_cons_zero, List.set_cons_succ, List.getElem_toArray, List.getElem_cons_succ, List.getElem_cons_zero]
        refine wpAnyH_take (i := 7) (oi := _) (v := ?_) rfl (by kernel_rfl) (by kernel_rfl) (by kernel_rfl) (fun _ _ _ h => h) (Or.inl ⟨by rfl, fun wz hSz => ?_⟩) (by assumption) ?_
        rotate_left
        · (first | (go_simp; done) | (go_simp; with_reducible rfl))
        try simp only [Act.put, List.setIfInBounds_toArray, List.set_cons_zero, List.set_cons_succ, List.getElem_toArray, List.getElem_cons_succ, List.getElem_cons_zero]
        refine wpAnyH_take (i := 8) (oi := _) (v := ?_) rfl (by kernel_rfl) (by kernel_rfl) (by kernel_rfl) (fun _ _ _ h => h) (Or.inl ⟨by rfl, fun wz hSz => ?_⟩) (by assumption) ?_
        rotate_left
        · (first | (go_simp; done) | (go_simp; with_reducible rfl))
        try simp only [Act.put, List.setIfInBounds_toArray, List.set_cons_zero, List.set_cons_succ, List.getElem_toArray, List.getElem_cons_succ, List.getElem_cons_zero]
        refine wpAnyH_take (i := 9) (oi := _) (v := ?_) rfl (by kernel_rfl) (by kernel_rfl) (by kernel_rfl) (fun _ _ _ h => h) (Or.inl ⟨by rfl, fun wz hSz => ?_⟩) (by assumption) ?_
        rotate_left
        · (first | (go_simp; done) | (go_simp; with_reducible rfl))
        try simp only [Act.put, List.setIfInBounds_toArray, List.set_cons_zero, List.set_cons_succ, List.getElem_toArray, List.getElem_cons_succ, List.getElem_cons_zero]
        refine wpAnyH_take (i := 10) (oi := _) (v := ?_) rfl (by kernel_rfl) (by kernel_rfl) (by kernel_rfl) (fun _ _ _ h => h) (Or.inl ⟨by rfl, fun wz hSz => ?_⟩) (by assumption) ?_
        rotate_left
        · (first | (go_simp; done) | (go_simp; with_reducible rfl))
        try simp only [Act.put, List.setIfInBounds_toArray, List.set_cons_zero, List.set_cons_succ, List.getElem_toArray, List.getElem_cons_succ, List.getElem_cons_zero]
        refine wpAnyH_done (by kernel_rfl) ?_ _
        go_wp2_with fail
        refine (unhide HW _ ((unhide HDR).ext (Ext.refl _).drew) ((unhide HP).ext (Ext.refl _).drew)).mono ?_
        rintro e w1 ⟨rfl, hP1, hC1⟩
        have H1 := hide (And.intro hP1 ((Chg.refl (fun k => B ≤ k) w).drew.trans hC1))
        obtain ⟨A, c1, hbp, hown⟩ := hP1.proof
        have hgp := hP1.lt
        have HBO := hide (And.intro hbp hown)
        have HL16 := hide (show ro.length = 16 from by rw [← hro]; exact rootS_length _)
        have HPL := hide (prove_le l.length (l.drop (splitS l.length)) (i - splitS l.length) (by omega))
        have hpl : (ds ++ proveS (l.drop (splitS l.length)) (i - splitS l.length)).length ≤ 100000 := by have := unhide HPL; rw [List.length_append]; omega
        have HQ2 := hide (show ds ++ proveS l i = (ds ++ proveS (l.drop (splitS l.length)) (i - splitS l.length)) ++ [ro] from by rw [unhide HQ, List.append_assoc, hro])
        generalize ds ++ proveS (l.drop (splitS l.length)) (i - splitS l.length) = ds1 at *
        have HF : Hid (∀ W, Chg (fun k => bw + 1 ≤ k) w1 W → W.cell? ⟨bp, 0, none⟩ = some (.slice A ds1.length c1)) := hide (fun W hW => by rw [(hbp.chg hW (by omega)).cell]; rfl)
        clear hbp hown hP1 hC1
        go_upto_region 8 with fail
        refine wp_region_key 5 (Chg (fun k => bw + 1 ≤ k) w1) (by kernel_rfl) ((Chg.refl _ _).drew) (fun hHeld => ?_)
        refine wpAnyK_take (i := 0) (oi := _) (v := ?_) rfl (by kernel_rfl) (by kernel_rfl) (by kernel_rfl) (by kernel_rfl) (by kernel_rfl) (fun _ _ _ h => h) (Or.inl ⟨by rfl, fun wz hSz => ?_⟩) (by assumption) ?_
        rotate_left
        · (first | (go_simp; done) | (go_simp; with_reducible rfl) | (obtain f1 := (unhide HF) wz hSz; clear hSz; first | (go_simp; done) | (go_simp; with_reducible rfl)))
        try simp only [Act.put, List.setIfInBounds_toArray, List.set_cons_zero, List.set_cons_succ, List.getElem_toArray, List.getElem_cons_zero]
        refine wpAnyK_take (i := 1) (oi := _) (v := ?_) rfl (by kernel_rfl) (by kernel_rfl) (by kernel_rfl) (by kernel_rfl) (by kernel_rfl) (fun _ _ _ h => h) (Or.inl ⟨by rfl, fun wz hSz => ?_⟩) (by assumption) ?_
        rotate_left
        · (first | (go_simp; done) | (go_simp; with_reducible rfl) | (obtain f1 := (unhide HF) wz hSz; clear hSz; first | (go_simp; done) | (go_simp; with_reducible rfl)))
        try simp only [Act.put, List.setIfInBounds_toArray, List.set_cons_zero, List.set_cons_succ, List.getElem_toArray, List.getElem_cons_succ, List.getElem_cons_zero]
        refine wpAnyK_ready (rs := [2]) (by kernel_rfl) (by simp) (AllReadyK.cons (o := _) rfl (fun K hK => ?_) AllReadyK.nil)
        try go_simp
        (refine (unhide HRt _ ((unhide H1).2.drew)).mono ?_; rintro e w3 ⟨rfl, hE3⟩; rw [hro]; have hS : Chg (fun k => bw + 1 ≤ k) w1 w3 := hHeld.ext hE3; have H3 := hide ((Ext.refl w1).drew.trans hE3); clear hHeld hE3)
        refine hK.out _ _ ?_ (fun hHeld => ?_)
        · exact hS
        clear hK K
        try simp only [Act.put, List.setIfInBounds_toArray, List.set_cons_zero, List.set_cons_succ, List.getElem_toArray, List.getElem_cons_succ, List.getElem_cons_zero]
        refine wpAnyK_ready (rs := [3]) (by kernel_rfl) (by simp) (AllReadyK.cons (o := _) rfl (fun K hK => ?_) AllReadyK.nil)
        (rw [if_pos (by rfl)]; refine wp_build1 (t := 43) (x := .tmp 45) digs_row (by omega) rfl rfl (by simpa using unhide HL16) ?_; have hS := hHeld.alloc (.cells (ro.map u8v).toArray 23); clear hHeld)
        refine hK.out _ _ ?_ (fun hHeld => ?_)
        · exact hS
        clear hK K
        try simp only [Act.put, List.setIfInBounds_toArray, List.set_cons_zero, List.set_cons_succ, List.getElem_toArray, List.getElem_cons_succ, List.getElem_cons_zero]
        refine wpAnyK_ready (rs := [4]) (by kernel_rfl) (by simp) (AllReadyK.cons (o := _) rfl (fun K hK => ?_) AllReadyK.nil)
        (refine step_app rfl rfl digs_row rfl (ownsRow_ext (unhide HBO).2 ((unhide H3).alloc _)) rfl (Reads.newD _ _ _ (unhide HL16) rfl) (AllOne.u8 ro) (by omega) (by have := (unhide HBO).1.lt; have := (unhide H1).1.walk.lt; have := (unhide H3).size'; simp; omega) ?_; intro A' c' w4 ho hc4 hv; have hS : Chg (fun k => bw + 1 ≤ k) w1 w4 := hHeld.trans (hc4.mono fun k _ hk => ((unhide HBO).2.lt k hk).1); have H4 := hide ((unhide H1).1.step (unhide HL16) ((unhide H3).alloc _) (unhide HBO).1 (unhide HBO).2 hc4 ho); have cb := unhide HF w4 hS; have fb := ((unhide HBO).1.chg hS (by omega)).frozen 0; have H34 := hide ((unhide H1).2.trans (((unhide H3).alloc (.cells (ro.map u8v).toArray 23)).chg)); clear ho hc4 hv hHeld)
        refine hK.out _ _ ?_ (fun hHeld => ?_)
        · exact hS
        clear hK K
        try simp only [Act.put, List.setIfInBounds_toArray, List.set_cons_zero, List.set_cons_succ, List.getElem_toArray, List.getElem_cons_succ, List.getElem_cons_zero]
        refine wpAnyK_ready (rs := [5]) (by kernel_rfl) (by simp) (AllReadyK.key (o := _) (by kernel_rfl) rfl (fun K hK => ?_))
        go_simp
        refine hK.out _ _ trivial (fun _ => ?_)
        clear hK K
        try simp only [Act.put, List.setIfInBounds_toArray, List.set_cons_zero, List.set_cons_succ, List.getElem_toArray, List.getElem_cons_succ, List.getElem_cons_zero]
        refine wpAnyK_done (by kernel_rfl) ?_ _
        go_wp2
        first | (refine bodyPost_ret (results_none rfl _ _ _) rfl ?_) | go_end0
        exact ⟨rfl, by rw [unhide HQ2]; exact (unhide H4).1, (unhide H34).trans (unhide H4).2⟩
set_option maxRecDepth 100000 in
set_option maxHeartbeats 4000000 in
theorem prove_yes (l : List (List UInt8)) (i : Nat) (v : Value) (w : World) (hM : ShaMem w) (hl : l.length ≤ 1000) (hD : Digs w v l) (h : i < l.length) :
    Calls Tryd.prog 62 #[v, .int .i64 (i : Int)] w fun e w' => ∃ A c, e = .returned (.tuple #[.slice A (proveS l i).length c, .int .i64 0]) ∧ GD w w.heap.size (.slice A (proveS l i).length c) (proveS l i).length (proveS l i) w' := by
  have hsl := hM.lt
  have hol := hD.own_lt (by omega)
  obtain ⟨A, c, rfl, _, _⟩ := hD.form
  have hmf := mkfun
  have hcall := call_enters Tryd.func76 (by kernel_rfl) rfl
  have HW := hide (fun W (hE : Ext w W) (hP : PI w.heap.size (w.heap.size + 1) w.heap.size [] W) => walk_any w.heap.size (w.heap.size + 1) w.heap.size l.length l [] i _ W (Nat.le_refl _) h (by simp; omega) (hD.ext hE) hol hP)
  obtain ⟨p, hp⟩ : ∃ p, proveS l i = p := ⟨_, rfl⟩
  rw [hp] at HW ⊢
  have HP0 := hide (fun W (hE : Ext w W) (h1 : Blk W (w.heap.size + 1) 144 #[.func (.func 76) #[] #[.pointer (some ⟨w.heap.size + 1, 0, none⟩), .pointer (some ⟨w.heap.size, 0, none⟩)]]) (h2 : Blk W w.heap.size 43 #[.slice none 0 0]) =>
    show PI w.heap.size (w.heap.size + 1) w.heap.size [] W from ⟨hM.ext hE, ⟨hsl.1, hsl.2⟩, ⟨Nat.le_refl _, by omega⟩, h1, ⟨none, 0, h2, World.ownsRow_nil _ _ _ _⟩, D16.nil⟩)
  have hi1 : ¬ (i : Int) < 0 := by omega
  have hi2 : ¬ (l.length : Int) ≤ (i : Int) := by omega
  have hi3 : (i : Int) < (l.length : Int) := by omega
  clear hM hD hol hsl hp
  go_enter Tryd.func62, Tryd.ntmps62
  go_wp2_with fail
  refine (unhide HW _ ?hE (unhide HP0 _ ?hE2 ?h1 ?h2)).mono ?_
  case hE => exact ((Ext.refl w).alloc _).alloc _
  case hE2 => exact ((Ext.refl w).alloc _).alloc _
  case h1 => exact Blk.new' (w.alloc (.cells #[.slice none 0 0] 43)) _ _ (by simp)
  case h2 => exact (Blk.new w _ _).alloc _
  rintro e w1 ⟨rfl, hP1, hC1⟩
  rw [List.nil_append] at hP1
  obtain ⟨A1, c1, hbp, hown⟩ := hP1.proof
  have H1 := hide (And.intro hP1.all (And.intro hown hC1))
  have cb : w1.cell? ⟨w.heap.size, 0, none⟩ = some (.slice A1 p.length c1) := by rw [hbp.cell]; rfl
  have hsz := hbp.lt
  clear hP1 hbp hown hC1 hmf hcall
  go_wp2
  go_ret2
  refine ⟨A1, c1, rfl, ownsRow_base (unhide H1).2.1 (by omega), (unhide H1).1, ?_, Nat.le_refl _, by omega⟩
  exact (((Ext.refl w).alloc _).alloc _).trans' (unhide H1).2.2 (fun _ _ h => h) (fun k hk e => by omega)
end Go.Proofs.YtihghljfmlbfhaaDoor


namespace Go.Proofs.YtihghljfmlbfhaaDoor
open Go.RowKit
set_option maxRecDepth 100000 in
set_option maxHeartbeats 4000000 in
theorem sign_any (seed : List UInt8) (index : Int) (m : List UInt8) (w : World) (hM : ShaMem w) (hv : seed.length = 16) (hm : m.length = 16) (h1 : -9223372036854775808 ≤ index) (h2 : index < 9223372036854775808) :
    Calls Tryd.prog 63 #[.agg (seed.map u8v).toArray, .int .i64 index, .agg (m.map u8v).toArray] w fun e w' => ∃ A c, e = .returned (.slice A 68 c) ∧ GD w w.heap.size (.slice A 68 c) 68 (signS seed index m 68) w' := by
  have HDg := hide (fun (W : World) => digits_any m W hm)
  have HS := hide (fun k (hk : k < 68) (W : World) (hE : Ext w W) => start_any k seed index W (hM.ext hE) hv (by omega) h1 h2)
  have HA := hide (fun k (hk : k < 68) (W : World) (hE : Ext w W) => adv_any k (digC m k) (startS seed index k) W (hM.ext hE) (startS_length _ _ _) (by omega) (by have := digC_le m k; omega))
  have HL := hide (signAt_length seed index m)
  have HT := hide (signS_step seed index m)
  have HG := hide (fun k (hk : k < 68) => icells_get (digC m) hk)
  have HQ := hide (fun k => show advS k (startS seed index k) (digC m k) = signAt seed index m k from rfl)
  obtain ⟨arr, harr⟩ : ∃ r, (seed.map u8v).toArray = r := ⟨_, rfl⟩
  obtain ⟨marr, hmarr⟩ : ∃ r, (m.map u8v).toArray = r := ⟨_, rfl⟩
  rw [harr] at HS ⊢
  rw [hmarr] at HDg ⊢
  have HSZ := hide (show arr.size = 16 ∧ marr.size = 16 from by rw [← harr, ← hmarr]; simp; omega)
  clear hM harr hmarr hv hm
  go_enter Tryd.func63, Tryd.ntmps63
  go_wp2_with (refine wpList_loadB (ty := 23) (t := 23) (x := .tmp 5) rfl rfl digest_wide rfl (Blk.new' _ _ _ (by simp)) (unhide HSZ).2 ?_)
  refine (unhide HDg _).mono ?_
  rintro e w1 ⟨g, rfl, hb1, hg, hE1⟩
  have H1 := hide (And.intro hb1 (And.intro ((((Ext.refl w).alloc _).alloc _).trans hE1) (((Blk.new w 23 arr).alloc _).ext hE1)))
  clear hb1 hE1 hg
  go_wp2_with fail
  go_loopw [7, 13] (fun b i wr => ∃ (k : Nat) (A : Option Addr) (c : Nat), k ≤ 68 ∧ i = .int .i64 k ∧ b = .slice A k c ∧ Hid (GD w w1.heap.size (.slice A k c) k (signS seed index m k) wr ∧ Blk wr w.heap.size 23 arr ∧ Blk wr g 106 (icells (digC m) 68).toArray)) (fun _ i _ => 68 - (intOf i).toNat)
  case atStart => exact ⟨0, none, 0, by omega, rfl, rfl, hide ⟨GD.nil (unhide H1).2.1 (unhide H1).2.1.size' (Nat.le_refl _), (unhide H1).2.2, (unhide H1).1⟩⟩
  case round =>
    obtain ⟨k, A, c, hk, rfl, rfl, HI⟩ := hrel
    by_cases hlt : k < 68
    · have cg : wr.cell? ⟨g, k, none⟩ = some (.int .i64 ((digC m k : Nat) : Int)) := by rw [(unhide HI).2.2.cell, List.getElem?_toArray]; exact unhide HG k hlt
      have HSk := hide (unhide HS k hlt)
      have HAk := hide (unhide HA k hlt)
      have HLk := hide (unhide HL k)
      have HTk := hide (unhide HT k)
      rw [unhide HQ k] at HAk
      generalize digC m k = dk at *
      generalize hst : ((startS seed index k).map u8v).toArray = st at *
      generalize signAt seed index m k = d at *
      have hkI : (k : Int) < 68 := by omega
      go_wp2_with (refine wpList_loadB (ty := 23) (t := 23) (x := .tmp 3) rfl rfl digest_wide rfl (unhide HI).2.1 (unhide HSZ).1 ?_)
      refine (unhide HSk _ (unhide HI).1.ext).mono ?_
      rintro e w2 ⟨rfl, hE2⟩
      have H2 := hide hE2
      clear hE2
      go_wp2_with fail
      refine (unhide HAk _ ((unhide HI).1.ext.trans (unhide H2))).mono ?_
      rintro e w3 ⟨rfl, hE3⟩
      have H3 := hide ((unhide H2).trans hE3)
      clear hE3
      go_wp2_with (first | (refine wpList_build1 (t := 43) (x := .tmp 25) rfl digs_row (by omega) rfl rfl (by simpa using unhide HLk) ?_) | at_builtin; refine wpList_app rfl rfl digs_row rfl ((unhide HI).1.to ((unhide H3).alloc _)).own rfl (Reads.newD _ _ _ (unhide HLk) rfl) (AllOne.u8 d) (by omega) ((unhide HI).1.to ((unhide H3).alloc _)).room ?_; intro A' c' w4 ho hc4 hv; have H4 := hide (And.intro ho hc4); clear ho hc4 hv)
      go_roundw
      case rel =>
        refine ⟨k + 1, A', c', by omega, by go_num, rfl, hide ⟨by rw [unhide HTk]; exact (unhide HI).1.step (unhide HLk) ((unhide H3).alloc _) (unhide H4).2 (unhide H4).1, ?_, ?_⟩⟩
        · exact ((unhide HI).2.1.ext ((unhide H3).alloc _)).chg (unhide H4).2 (fun e => by have h5 := ((unhide HI).1.own.lt _ e).1; have h6 := (unhide H1).2.2.lt; omega)
        · exact ((unhide HI).2.2.ext ((unhide H3).alloc _)).chg (unhide H4).2 (fun e => by have h5 := ((unhide HI).1.own.lt _ e).1; have h6 := (unhide H1).1.lt; omega)
      case measure => simp [intOf]; omega
    · obtain rfl : k = 68 := by omega
      go_wp2
      go_ret
      exact ⟨A, c, rfl, ⟨ownsRow_base (unhide HI).1.own (unhide H1).2.1.size', (unhide HI).1.all, (unhide HI).1.ext, Nat.le_refl _, (unhide HI).1.ext.size'⟩⟩
end Go.Proofs.YtihghljfmlbfhaaDoor


namespace Go.Proofs.YtihghljfmlbfhaaDoor
open Go.RowKit
set_option maxRecDepth 100000 in
set_option maxHeartbeats 4000000 in
theorem tsign_arg (seed msg : List UInt8) (h index : Int) (w : World) (hh : ¬ okH h ∨ index < 0) :
    Calls Tryd.prog 40 #[.agg (seed.map u8v).toArray, .int .i64 h, .int .i64 index, .agg (msg.map u8v).toArray] w fun e w' => e = .returned (.tuple #[.agg #[.int .i64 0, .slice none 0 0, .slice none 0 0], .int .i64 1]) ∧ Ext w w' := by
  obtain ⟨arr, harr⟩ : ∃ x, (seed.map u8v).toArray = x := ⟨_, rfl⟩
  obtain ⟨mrr, hmrr⟩ : ∃ x, (msg.map u8v).toArray = x := ⟨_, rfl⟩
  rw [harr, hmrr]
  clear harr hmrr
  by_cases ho : okH h
  · have hi : index < 0 := by rcases hh with h | h; exact absurd ho h; exact h
    have HV := hide (fun W => valid_ok h ho W)
    clear hh ho
    go_enter Tryd.func40, Tryd.ntmps40
    go_wp2_with (go_at_call 11; refine (unhide HV _).mono ?_; rintro e wz ⟨rfl, rfl⟩)
    refine bodyPost_ret (v := .tuple #[.agg #[.int .i64 0, .slice none 0 0, .slice none 0 0], .int .i64 1]) (results_two sig_wide rfl (Blk.new' _ _ _ (by simp)) rfl rfl rfl) rfl ⟨rfl, ?_⟩
    exact (((Ext.refl w).alloc _).alloc _).alloc _
  · have HV := hide (fun W => valid_no h W ho)
    clear hh ho
    go_enter Tryd.func40, Tryd.ntmps40
    go_wp2_with (go_at_call 11; refine (unhide HV _).mono ?_; rintro e wz ⟨rfl, rfl⟩)
    refine bodyPost_ret (v := .tuple #[.agg #[.int .i64 0, .slice none 0 0, .slice none 0 0], .int .i64 1]) (results_two sig_wide rfl (Blk.new' _ _ _ (by simp)) rfl rfl rfl) rfl ⟨rfl, ?_⟩
    exact (((Ext.refl w).alloc _).alloc _).alloc _
set_option maxRecDepth 100000 in
set_option maxHeartbeats 4000000 in
theorem tsign_out (seed msg : List UInt8) (h n : Nat) (hn : n = 2 ^ h) (hh : h ≤ 4) (index : Int) (w : World) (h0 : (n : Int) ≤ index) :
    Calls Tryd.prog 40 #[.agg (seed.map u8v).toArray, .int .i64 (h : Int), .int .i64 index, .agg (msg.map u8v).toArray] w fun e w' => e = .returned (.tuple #[.agg #[.int .i64 0, .slice none 0 0, .slice none 0 0], .int .i64 17]) ∧ Ext w w' := by
  have HV := hide (fun W => (fun W => valid_yes (h : Int) W (okH_nat h hh)) W)
  have hsh : wrap64 ((2 : Int) ^ h) = (n : Int) := by rw [shl_one h hh, hn]
  have hn1 : 1 ≤ n := by subst hn; exact Nat.one_le_two_pow
  have hnI : ¬ (n : Int) = 0 := by omega
  have hnB : ((n : Int) == 0) = false := beq_eq_false_iff_ne.2 (by omega)
  have hi0 : ¬ index < 0 := by omega
  obtain ⟨arr, harr⟩ : ∃ x, (seed.map u8v).toArray = x := ⟨_, rfl⟩
  obtain ⟨mrr, hmrr⟩ : ∃ x, (msg.map u8v).toArray = x := ⟨_, rfl⟩
  rw [harr, hmrr]
  clear harr hmrr hn
  go_enter Tryd.func40, Tryd.ntmps40
  go_wp2_with (go_at_call 11; refine (unhide HV _).mono ?_; rintro e wz ⟨rfl, rfl⟩)
  refine bodyPost_ret (v := .tuple #[.agg #[.int .i64 0, .slice none 0 0, .slice none 0 0], .int .i64 17]) (results_two sig_wide rfl (Blk.new' _ _ _ (by simp)) rfl rfl rfl) rfl ⟨rfl, ?_⟩
  exact (((Ext.refl w).alloc _).alloc _).alloc _
set_option maxRecDepth 100000 in
set_option maxHeartbeats 4000000 in
theorem tsign_yes (seed msg : List UInt8) (h n : Nat) (hn : n = 2 ^ h) (hh : h ≤ 4) (i : Nat) (hi : i < n) (w : World) (hv : seed.length = 16) (hm : msg.length = 16) (hM : ShaMem w) :
    Calls Tryd.prog 40 #[.agg (seed.map u8v).toArray, .int .i64 (h : Int), .int .i64 (i : Int), .agg (msg.map u8v).toArray] w (SignPost w (i : Int) (signS seed (i : Int) msg 68) (proveS (leavesS seed n) i)) := by
  have hn16 : n ≤ 16 := by subst hn; exact pow_le16 h h (Nat.le_refl _) hh
  have hsh : wrap64 ((2 : Int) ^ h) = (n : Int) := by rw [shl_one h hh, hn]
  have HV := hide (fun W => (fun W => valid_yes (h : Int) W (okH_nat h hh)) W)
  have HK := hide (fun W (hE : Ext w W) => leaves_any seed h n hn hh W hv (hM.ext hE))
  have HP := hide (fun (A : Option Addr) (c : Nat) W (hE : Ext w W) (hD : Digs W (.slice A n c) (leavesS seed n)) => prove_yes (leavesS seed n) i (.slice A n c) W (hM.ext hE) (by rw [leavesS_length]; omega) hD (by rw [leavesS_length]; omega))
  have HS := hide (fun W (hE : Ext w W) => sign_any seed (i : Int) msg W (hM.ext hE) hv hm (by omega) (by omega))
  have hnI : ¬ (n : Int) = 0 := by omega
  have hnB : ((n : Int) == 0) = false := beq_eq_false_iff_ne.2 (by omega)
  have hi0 : ¬ (i : Int) < 0 := by omega
  have hi1 : ¬ (n : Int) ≤ (i : Int) := by omega
  have hi2 : (i : Int) < (n : Int) := by omega
  obtain ⟨chain, hchain⟩ : ∃ x, signS seed (i : Int) msg 68 = x := ⟨_, rfl⟩
  obtain ⟨path, hpath⟩ : ∃ x, proveS (leavesS seed n) i = x := ⟨_, rfl⟩
  rw [hchain] at HS ⊢
  rw [hpath] at HP ⊢
  obtain ⟨arr, harr⟩ : ∃ x, (seed.map u8v).toArray = x := ⟨_, rfl⟩
  obtain ⟨mrr, hmrr⟩ : ∃ x, (msg.map u8v).toArray = x := ⟨_, rfl⟩
  have HSZ := hide (show arr.size = 16 ∧ mrr.size = 16 from by rw [← harr, ← hmrr]; exact ⟨by simpa using hv, by simpa using hm⟩)
  rw [harr] at HK HS ⊢
  rw [hmrr] at HS ⊢
  have HZ := hide (show Ext w (((w.alloc (.cells arr 23)).alloc (.cells mrr 23)).alloc (.cells #[.int .i64 0, .slice none 0 0, .slice none 0 0] 45)) ∧ Blk (((w.alloc (.cells arr 23)).alloc (.cells mrr 23)).alloc (.cells #[.int .i64 0, .slice none 0 0, .slice none 0 0] 45)) w.heap.size 23 arr ∧
    Blk (((w.alloc (.cells arr 23)).alloc (.cells mrr 23)).alloc (.cells #[.int .i64 0, .slice none 0 0, .slice none 0 0] 45)) (w.heap.size + 1) 23 mrr ∧ Blk (((w.alloc (.cells arr 23)).alloc (.cells mrr 23)).alloc (.cells #[.int .i64 0, .slice none 0 0, .slice none 0 0] 45)) (w.heap.size + 1 + 1) 45 #[.int .i64 0, .slice none 0 0, .slice none 0 0]
    from ⟨(((Ext.refl w).alloc _).alloc _).alloc _, ((Blk.new w _ _).alloc _).alloc _, (Blk.new' _ _ _ (by simp)).alloc _, Blk.new' _ _ _ (by simp)⟩)
  clear hn hv hm harr hmrr hchain hpath hi hM
  go_enter Tryd.func40, Tryd.ntmps40
  go_upto_region 6 with (go_at_call 11; refine (unhide HV _).mono ?_; rintro e wz ⟨rfl, rfl⟩)
  generalize hW0 : (((w.alloc (.cells arr 23)).alloc (.cells mrr 23)).alloc (.cells #[.int .i64 0, .slice none 0 0, .slice none 0 0] 45)) = W0 at *
  clear hW0 hsh
  go_wp2_with (first
    | (refine wpList_loadB (ty := 23) (t := 23) (x := .tmp 4) rfl rfl digest_wide rfl (cs := arr) (unhide HZ).2.1 (unhide HSZ).1 ?_)
    | (go_at_call 13; refine (unhide HK _ (unhide HZ).1).mono ?_; rintro e w1 ⟨A1, c1, rfl, hG⟩; have H1 := hide (And.intro hG.digs hG.ext); clear hG)
    | (go_at_call 62; refine (unhide HP A1 c1 _ ((unhide HZ).1.trans (unhide H1).2) (unhide H1).1).mono ?_; rintro e w2 ⟨A2, c2, rfl, hG⟩; have HO2 := hide (fun k (hk : (Value.slice A2 path.length c2).ownBlock = some k) => show w.heap.size + 1 + 1 < k from by have := (hG.own.lt k hk).1; have := (unhide HZ).2.2.2.lt; have := (unhide H1).2.size'; omega); have H2 := hide (And.intro hG.digs ((unhide H1).2.trans hG.ext)); clear hG)
    | (refine wpList_loadB (ty := 23) (t := 23) (x := .tmp 4) rfl rfl digest_wide rfl (cs := arr) ((unhide HZ).2.1.ext (unhide H2).2) (unhide HSZ).1 ?_)
    | (refine wpList_loadB (ty := 23) (t := 23) (x := .tmp 7) rfl rfl digest_wide rfl (cs := mrr) ((unhide HZ).2.2.1.ext (unhide H2).2) (unhide HSZ).2 ?_)
    | (go_at_call 63; refine (unhide HS _ ((unhide HZ).1.trans (unhide H2).2)).mono ?_; rintro e w3 ⟨A3, c3, rfl, hG⟩; have HO3 := hide (fun k (hk : (Value.slice A3 68 c3).ownBlock = some k) => show w.heap.size + 1 + 1 < k from by have := (hG.own.lt k hk).1; have := (unhide HZ).2.2.2.lt; have := (unhide H2).2.size'; omega); have H3 := hide (And.intro hG.digs (And.intro ((unhide H2).1.ext hG.ext) ((unhide H2).2.trans hG.ext))); obtain ⟨q0, q1, q2, qf, ql⟩ := ((unhide HZ).2.2.2.ext (unhide H3).2.2).cells3; clear hG))
  refine bodyPost_ret (v := .tuple #[.agg #[.int .i64 (i : Int), .slice A3 68 c3, .slice A2 path.length c2], .int .i64 0]) (results_two sig_wide rfl ((((unhide HZ).2.2.2.ext (unhide H3).2.2).set_ 0 _).set_ 1 _ |>.set_ 2 _) rfl rfl rfl) rfl ?_
  have hc : Chg (fun k => k = w.heap.size + 1 + 1) w3 (((w3.setCell ⟨w.heap.size + 1 + 1, 0, none⟩ (.int .i64 (i : Int))).setCell ⟨w.heap.size + 1 + 1, 1, none⟩ (.slice A3 68 c3)).setCell ⟨w.heap.size + 1 + 1, 2, none⟩ (.slice A2 path.length c2)) := (((Chg.refl (fun k => k = w.heap.size + 1 + 1) w3).setCell (p := ⟨w.heap.size + 1 + 1, 0, none⟩) (.inl rfl) _).setCell (p := ⟨w.heap.size + 1 + 1, 1, none⟩) (.inl rfl) _).setCell (p := ⟨w.heap.size + 1 + 1, 2, none⟩) (.inl rfl) _
  refine ⟨_, rfl, ⟨_, _, rfl, ?_, ?_⟩, ((unhide HZ).1.trans (unhide H3).2.2).trans' hc (fun _ _ h => h) (fun i hi e => by omega), ⟨_, _, _, rfl, fun k hk => by have := unhide HO3 k hk; omega, fun k hk => by have := unhide HO2 k hk; omega⟩⟩
  · exact (unhide H3).1.chg hc (fun k hk e => by have := unhide HO3 k hk; omega)
  · exact (unhide H3).2.1.chg hc (fun k hk e => by have := unhide HO2 k hk; omega)
end Go.Proofs.YtihghljfmlbfhaaDoor


namespace Go.Proofs.YtihghljfmlbfhaaDoor.Pv
open Go.RowKit
set_option maxRecDepth 100000 in
theorem tsign_spec : SpecOk Tryd.prog ShaMem 40 (funSpec true signG) := by
  refine funSpec_ok (call_enters Tryd.func40 (by kernel_rfl) rfl) (fun xs p r hg hp w ok0 vs hI hv => ?_)
  unfold signG at hg
  split at hg
  · rename_i sd h i m
    cases hg
    match vs, hv with
    | [v1, v2, v3, v4], ⟨k1, k2, k3, k4, _⟩ =>
      obtain ⟨l1, rfl⟩ := rv_dig16 k1
      obtain rfl := k2.lit_inv
      obtain rfl := k3.lit_inv
      obtain ⟨l4, rfl⟩ := rv_dig16 k4
      by_cases ho : okH h
      · obtain ⟨k, rfl, hk⟩ := okH_cases h ho
        by_cases hi : i < 0
        · have e : sgnT sd (k : Int) i m = (⟨0, [], []⟩, 1) := by
            unfold sgnT
            rw [if_pos (.inr hi)]
          rw [e]
          refine (tsign_arg sd m _ i w (.inr hi)).mono ?_
          rintro e w' ⟨rfl, hE⟩
          exact ⟨_, rfl, hE, rv_pair sigPC_nil⟩
        · obtain ⟨j, rfl⟩ : ∃ j : Nat, i = (j : Int) := ⟨i.toNat, by omega⟩
          by_cases hj : j < 2 ^ k
          · have e : sgnT sd (k : Int) (j : Int) m = (⟨(j : Int), signS sd (j : Int) m 68, proveS (leavesS sd (2 ^ k)) j⟩, 0) := by
              unfold sgnT
              rw [if_neg (by omega)]
              simp only [Int.toNat_natCast]
              rw [if_pos hj]
            rw [e]
            refine (tsign_yes sd m k _ rfl hk j hj w l1 l4 hI).mono ?_
            rintro e w' ⟨v, rfl, ⟨cv, pv, rfl, d1, d2⟩, hE, ⟨i', cv', pv', q, n1, n2⟩⟩
            cases q
            exact ⟨_, rfl, hE, rv_pair (sigPC_rl d1 d2 (fun b hb => .inr (n1 b hb)) (fun b hb => .inr (n2 b hb)))⟩
          · have e : sgnT sd (k : Int) (j : Int) m = (⟨0, [], []⟩, 17) := by
              unfold sgnT
              rw [if_neg (by omega)]
              simp only [Int.toNat_natCast]
              rw [if_neg hj]
            rw [e]
            refine (tsign_out sd m k _ rfl hk j w (by omega)).mono ?_
            rintro e w' ⟨rfl, hE⟩
            exact ⟨_, rfl, hE, rv_pair sigPC_nil⟩
      · have e : sgnT sd h i m = (⟨0, [], []⟩, 1) := by
          unfold sgnT
          rw [if_pos (.inl ho)]
        rw [e]
        refine (tsign_arg sd m h i w (.inl ho)).mono ?_
        rintro e w' ⟨rfl, hE⟩
        exact ⟨_, rfl, hE, rv_pair sigPC_nil⟩
  · cases hg
end Go.Proofs.YtihghljfmlbfhaaDoor.Pv


namespace Go.Proofs.YtihghljfmlbfhaaDoor
open Go.RowKit
def Prg.sign (h : Nat) : Prg (Nat × Int) := (Prg.levelOf 2 16).bind fun n => if 2 ^ h ≤ n then .ret (n, 17) else (Prg.raiseTo 2 16 (n + 1)).bind fun p => .ret (n, p.2)
def Prg.signI (h : Int) : Prg (Nat × Int) := if 0 ≤ h ∧ h ≤ 4 then Prg.sign h.toNat else .ret (0, 1)
end Go.Proofs.YtihghljfmlbfhaaDoor
namespace Go.Proofs.YtihghljfmlbfhaaDoor.Pv
open Go.RowKit
def sgO (seed : List UInt8) (h : Int) (m : List UInt8) (p : Nat × Int) : Sig × Int := if p.2 = 0 then sgnT seed h p.1 m else (⟨0, [], []⟩, p.2)
def sgPair (x : Sig × Int) : PV := .tup [.agg (sigPC x.1), .one (.lit (.int .i64 x.2))]
def sgOut (x : Sig × Int) : PV := .w (.agg (sigPC x.1 ++ [.lit (.int .i64 x.2)]))
def sgL : List (Nat × Spec) := (39, prgSpec decRa) :: (40, funSpec true signG) :: raL
theorem sg_ok : ∀ p ∈ sgL, SpecOk Tryd.prog ShaMem p.1 p.2 := by
  intro p hp
  simp only [sgL, List.mem_cons] at hp
  rcases hp with rfl | rfl | hp
  · exact raiseTo_spec sha_ext
  · exact tsign_spec
  · exact ra_ok sha_ext p hp
theorem sgM : Mach Tryd.prog ShaMem (find sgL) := ⟨specs_of sg_ok, mixed_⟩
theorem raiseFrom_err (b : Int) : ∀ f n, Prg.All (fun p => p.2 = 0 ∨ p.2 = 12) (Prg.raiseFrom b f n)
  | 0, n => .inl rfl
  | f + 1, n => (Prg.All.triv (Prg.pulses b n)).bind fun _ _ => (Prg.All.triv (Prg.read b n)).bind fun x _ => by
    cases x with
    | true => exact raiseFrom_err b f (n + 1)
    | false => exact .inr rfl
theorem raiseTo_err (b : Int) (m t : Nat) : Prg.All (fun p => p.2 = 0 ∨ p.2 = 12) (Prg.raiseTo b m t) := (Prg.All.triv (Prg.levelOf b m)).bind fun _ _ => raiseFrom_err b _ _
theorem shl16 {h : Nat} (hh : h ≤ 4) : IntKind.i64.wrap (1 * 2 ^ (min ((h : Int).toNat) IntKind.i64.bits)) = ((2 ^ h : Nat) : Int) := by
  match h, hh with
  | 0, _ => rfl
  | 1, _ => rfl
  | 2, _ => rfl
  | 3, _ => rfl
  | 4, _ => rfl
def sgSt (O : List Acc → Option Res) (stp : List Acc → Prop) (seed m : List UInt8) (h : Nat) (s : List PC) (n : Nat) (e : Int) (lk : List Acc) : St :=
  ⟨[(0, none, .w (.one .dv)), (2, none, pvI h), (5, none, pv1 (.pt 0 0 0)), (7, none, pv1 (.pt 1 0 0)), (8, none, pv1 (.pt 2 0 0)), (9, none, pvI e), (10, none, pvI n)],
  [(dx, none, 0, .dev O stp lk), (0, none, 0, .box 23 [.bs 16 seed]), (1, none, 0, .box 23 [.bs 16 m]), (2, none, 0, .box 45 s)]⟩
def noSig : List PC := [.lit (.int .i64 0), .lit (.slice none 0 0), .lit (.slice none 0 0)]
set_option maxRecDepth 100000 in
set_option maxHeartbeats 1000000 in
theorem signWith_fun (seed m : List UInt8) (h : Nat) (hh : h ≤ 4) : FunP Tryd.prog ShaMem 27 (Prg.sign h) [.w (.one .dv), .w (.agg [.bs 16 seed]), pvI h, .w (.agg [.bs 16 m])] (fun p => sgPair (sgO seed h m p)) := by
  intro O l
  have M := sgM
  refine funX_of Tryd.func27 rfl rfl rfl (fun A hn hI => ?_)
  generalize hstp : (fun g => l <+: g ∧ g <+: (go O (Prg.sign h) l).2) = stp
  have hL0 : Left O (Prg.sign h) l ((Prg.levelOf 2 16).bind fun n => if 2 ^ h ≤ n then .ret (n, 17) else (Prg.raiseTo 2 16 (n + 1)).bind fun p => .ret (n, p.2)) l := Left.start _ _ _
  have hn0 : (go O (Prg.levelOf 2 16) l).1 ≤ 16 := go_all O (levelOf_all 2 16) l
  have hL := hL0.step
  have hsh := shl16 hh
  refine tri_reg M hI hn (outs := ?_) (s' := ?_) ?_ ?_ ?_ ?_
  rotate_left 2
  · rfl
  · kernel_rfl
  · simp
  refine tri_scope ?_
  refine tri_seq ?_
  refine tri_label ?_
  change Tri _ _ _ _ _
  refine tri_seq ?_
  refine tri_reg M hI hn (outs := ?_) (s' := ?_) ?_ ?_ ?_ ?_
  rotate_left 2
  · rfl
  · kernel_rfl
  · simp
    refine fun g h1 h2 h3 => ?_
    rw [← hstp]
    exact hL0.stp g h1 h2 h3
  obtain ⟨n0, l0, hq⟩ : ∃ n0 l0, go O (Prg.levelOf 2 16) l = (n0, l0) := ⟨_, _, rfl⟩
  rw [hq] at hn0 hL
  dsimp only at hn0 hL
  refine tri_conv (s' := sgSt O stp seed m h noSig n0 0 l0) (fun a w hg => (hg.reset (kT := [0, 2, 5, 7, 8, 9, 10]) (kO := [900000, 0, 1, 2]) (by rfl) (by simp)).same ?_ ?_) ?_
  · exact .cons rfl (.cons rfl (.cons rfl (.cons rfl (.cons rfl (.cons rfl (.cons (by show pvI ((go O (Prg.levelOf 2 16) l).1 : Int) = _; rw [hq]) .nil))))))
  · exact .cons (.dev (by show (go O (Prg.levelOf 2 16) l).2 = _; rw [hq])) (.cons (.box rfl) (.cons (.box rfl) (.cons (.box rfl) .nil)))
  refine tri_block ?_
  refine tri_reg M hI hn (outs := ?_) (s' := ?_) ?_ ?_ ?_ ?_
  rotate_left 2
  · rfl
  · kernel_rfl
  · simp
  refine tri_cond (b := ?_) ?_ (fun hc => ?_) (fun hc => ?_)
  rotate_left 1
  · rfl
  · have hge : 2 ^ h ≤ n0 := by
      have := of_decide_eq_true hc
      rw [hsh] at this
      omega
    rw [if_pos hge] at hL
    have hE : go O (Prg.sign h) l = ((n0, 17), l0) := hL.2
    refine tri_reg M hI hn (outs := ?_) (s' := ?_) ?_ ?_ ?_ ?_
    rotate_left 2
    · rfl
    · kernel_rfl
    · simp
    refine tri_exit ?_
    change Tri _ _ _ _ _
    refine tri_reg M hI hn (outs := ?_) (s' := ?_) ?_ ?_ ?_ ?_
    rotate_left 2
    · rfl
    · kernel_rfl
    · simp
    refine tri_ret (fun a w hg => ⟨.inr rfl, _, ⟨?_, (fun o ho => by cases ho), fun p hp => ?_⟩, hg⟩)
    rotate_left 1
    · cases hp
      rw [hE]
      rfl
    refine retTo_ex (out := ?_) ?_ ?_ ?_ ?_
    rotate_left 1
    · rfl
    · simp
    · rfl
    · rw [hE]
      exact .tup (.cons (.agg (.cons (.cold rfl) (.cons .nil (.cons .nil .nil)))) (.cons (.one (.cold rfl)) .nil))
  · have hge : ¬ 2 ^ h ≤ n0 := by
      have := of_decide_eq_false hc
      rw [hsh] at this
      omega
    rw [if_neg hge] at hL
    have hL2 := hL.step
    have hw : (IntKind.i64.wrap ((n0 : Int) + 1)).toNat = n0 + 1 := by rw [wrap_nat n0 (by omega)]; exact Int.toNat_natCast _
    have hw2 : IntKind.i64.wrap ((n0 : Int) + 1) = ((n0 + 1 : Nat) : Int) := wrap_nat n0 (by omega)
    refine tri_seq ?_
    refine tri_reg M hI hn (outs := ?_) (s' := ?_) ?_ ?_ ?_ ?_
    rotate_left 2
    · rfl
    · kernel_rfl
    · simp
      rw [hw2]
      refine ⟨by omega, fun g h1 h2 h3 => ?_⟩
      rw [← hstp]
      exact hL.stp g h1 h2 h3
    have he1 : (go O (Prg.raiseTo 2 16 (n0 + 1)) l0).1.2 = 0 ∨ (go O (Prg.raiseTo 2 16 (n0 + 1)) l0).1.2 = 12 := go_all O (raiseTo_err 2 16 (n0 + 1)) l0
    obtain ⟨m1, e1, l1, hq1⟩ : ∃ m1 e1 l1, go O (Prg.raiseTo 2 16 (n0 + 1)) l0 = ((m1, e1), l1) := ⟨_, _, _, rfl⟩
    rw [hq1] at hL2 he1
    dsimp only at hL2 he1
    have hE : go O (Prg.sign h) l = ((n0, e1), l1) := hL2.2
    refine tri_conv (s' := sgSt O stp seed m h noSig n0 e1 l1) (fun a w hg => (hg.reset (kT := [0, 2, 5, 7, 8, 9, 10]) (kO := [900000, 0, 1, 2]) (by rfl) (by simp)).same ?_ ?_) ?_
    · exact .cons rfl (.cons rfl (.cons rfl (.cons rfl (.cons rfl (.cons (by show pvI ((go O (Prg.raiseTo 2 16 (IntKind.i64.wrap ((n0 : Int) + 1)).toNat) l0).1.2) = _; rw [hw, hq1]) (.cons rfl .nil))))))
    · exact .cons (.dev (by show (go O (Prg.raiseTo 2 16 (IntKind.i64.wrap ((n0 : Int) + 1)).toNat) l0).2 = _; rw [hw, hq1])) (.cons (.box rfl) (.cons (.box rfl) (.cons (.box rfl) .nil)))
    refine tri_reg M hI hn (outs := ?_) (s' := ?_) ?_ ?_ ?_ ?_
    rotate_left 2
    · rfl
    · kernel_rfl
    · simp
    refine tri_cond (b := ?_) ?_ (fun hc => ?_) (fun hc => ?_)
    rotate_left 1
    · rfl
    · have hne : ¬ e1 = 0 := by
        have h2 : (e1 != 0) = true := hc
        simpa using h2
      have hO : sgO seed h m (n0, e1) = (⟨0, [], []⟩, e1) := if_neg hne
      refine tri_exit ?_
      change Tri _ _ _ _ _
      refine tri_reg M hI hn (outs := ?_) (s' := ?_) ?_ ?_ ?_ ?_
      rotate_left 2
      · rfl
      · kernel_rfl
      · simp
      refine tri_ret (fun a w hg => ⟨.inr rfl, _, ⟨?_, (fun o ho => by cases ho), fun p hp => ?_⟩, hg⟩)
      rotate_left 1
      · cases hp
        rw [hE]
        rfl
      refine retTo_ex (out := ?_) ?_ ?_ ?_ ?_
      rotate_left 1
      · rfl
      · simp
      · rfl
      · rw [hE]
        show ExV _ _ _ (sgPair (sgO seed h m (n0, e1))); rw [hO]; exact .tup (.cons (.agg (.cons (.cold rfl) (.cons .nil (.cons .nil .nil)))) (.cons (.one (.cold rfl)) .nil))
    · have hz : e1 = 0 := by
        have h2 : (e1 != 0) = false := hc
        simpa using h2
      have hO : sgO seed h m (n0, e1) = sgnT seed h n0 m := if_pos hz
      refine tri_skip ?_
      change Tri _ _ _ _ _
      refine tri_region M hI hn (outs := ?_) (s' := ?_) ?_ ?_ ?_ ?_
      rotate_left 2
      · rfl
      · kernel_rfl
      · simp
      change Tri _ _ _ _ _
      obtain ⟨x, hx⟩ : ∃ x, sgnT seed h n0 m = x := ⟨_, rfl⟩
      rw [hx] at hO
      refine tri_conv (s' := sgSt O stp seed m h (sigPC x.1) n0 x.2 l1) (fun a w hg => (hg.reset (kT := [0, 2, 5, 7, 8, 9, 10]) (kO := [900000, 0, 1, 2]) (by rfl) (by simp)).same ?_ ?_) ?_
      · exact .cons rfl (.cons rfl (.cons rfl (.cons rfl (.cons rfl (.cons (by rw [← hx]) (.cons rfl .nil))))))
      · exact .cons (.dev rfl) (.cons (.box rfl) (.cons (.box rfl) (.cons (.box (by rw [← hx]; rfl)) .nil)))
      refine tri_reg M hI hn (outs := ?_) (s' := ?_) ?_ ?_ ?_ ?_
      rotate_left 2
      · rfl
      · kernel_rfl
      · simp
      refine tri_ret (fun a w hg => ⟨.inr rfl, _, ⟨?_, (fun o ho => by cases ho), fun p hp => ?_⟩, hg⟩)
      rotate_left 1
      · cases hp
        rw [hE]
        rfl
      refine retTo_ex (out := ?_) ?_ ?_ ?_ ?_
      rotate_left 1
      · rfl
      · simp
      · rfl
      · rw [hE]
        show ExV _ _ _ (sgPair (sgO seed h m (n0, e1))); rw [hO]; exact .tup (.cons (.agg (.cons (.cold rfl) (.cons (.cold rfl) (.cons (.cold rfl) .nil)))) (.cons (.one (.cold rfl)) .nil))
def decSg : List PV → Option (Prop × Prg (Nat × Int) × (Nat × Int → PV))
  | [.w (.agg [.bs 16 seed]), .w (.one (.lit (.int .i64 h))), .w (.agg [.bs 16 m])] => some (0 ≤ h ∧ h ≤ 4, Prg.sign h.toNat, fun p => sgPair (sgO seed h m p))
  | _ => none
theorem signWith_spec : SpecOk Tryd.prog ShaMem 27 (prgSpec decSg) :=
  prgSpec_ok (call_enters Tryd.func27 (by kernel_rfl) rfl) (fun ys c p v h hc => by
    unfold decSg at h
    split at h
    · rename_i seed b m
      cases h
      obtain ⟨k, rfl⟩ : ∃ k : Nat, b = (k : Int) := ⟨b.toNat, by omega⟩
      rw [Int.toNat_natCast]
      exact signWith_fun seed m k (by omega)
    · cases h)
end Go.Proofs.YtihghljfmlbfhaaDoor.Pv


namespace Go.Proofs.YtihghljfmlbfhaaDoor.Pv
open Go.RowKit
def s1L : List (Nat × Spec) := [(27, prgSpec decSg)]
theorem s1M : Mach Tryd.prog ShaMem (find s1L) := ⟨specs_of (fun p hp => by
  simp only [s1L, List.mem_cons, List.not_mem_nil, or_false] at hp
  subst hp
  exact signWith_spec), mixed_⟩
def sgObs (seed m : List UInt8) (h : Int) : List Ob := [⟨900001, 3, [.lit (.int .i64 h)], [.lit (.int .i64 h)]⟩, ⟨900002, 23, [.bs 16 seed], [.bs 16 seed]⟩, ⟨900003, 23, [.bs 16 m], [.bs 16 m]⟩]
set_option maxRecDepth 100000 in
set_option maxHeartbeats 1000000 in
theorem sign1_fun (seed m : List UInt8) (h : Int) (O : List Acc → Option Res) (l : List Acc) : FunX Tryd.prog ShaMem 26 false (sgObs seed m h) O (some (l, (go O (Prg.signI h) l).2)) (fun g => l <+: g ∧ g <+: (go O (Prg.signI h) l).2)
    [.w (.one .dv), pv1 (.pt 900001 0 0), pv1 (.pt 900002 0 0), pv1 (.pt 900003 0 0)] (sgOut (sgO seed h m (go O (Prg.signI h) l).1)) := by
  have M := s1M
  refine funX_of Tryd.func26 rfl rfl rfl (fun A hn hI => ?_)
  generalize hstp : (fun g => l <+: g ∧ g <+: (go O (Prg.signI h) l).2) = stp
  refine tri_reg M hI hn (outs := ?_) (s' := ?_) ?_ ?_ ?_ ?_
  rotate_left 2
  · rfl
  · kernel_rfl
  · simp
  refine tri_seq ?_
  refine tri_reg M hI hn (outs := ?_) (s' := ?_) ?_ ?_ ?_ ?_
  rotate_left 2
  · rfl
  · kernel_rfl
  · simp
  refine tri_cond (b := ?_) ?_ (fun hc => ?_) (fun hc => ?_)
  rotate_left 1
  · rfl
  · have hh : ¬ (0 ≤ h ∧ h ≤ 4) := by
      intro hh
      have hc' : (bif decide (h < 0) then true else decide (h > 4)) = true := hc
      rw [decide_eq_false (by omega), decide_eq_false (by omega)] at hc'
      cases hc'
    have hE : go O (Prg.signI h) l = ((0, 1), l) := by unfold Prg.signI; rw [if_neg hh]; rfl
    refine tri_reg M hI hn (outs := ?_) (s' := ?_) ?_ ?_ ?_ ?_
    rotate_left 2
    · rfl
    · kernel_rfl
    · simp
    refine tri_ret (fun a w hg => ⟨.inr rfl, _, ⟨?_, ?_, fun p hp => ?_⟩, hg⟩)
    rotate_left 1
    · intro o ho
      simp only [sgObs, List.mem_cons, List.not_mem_nil, or_false] at ho
      rcases ho with rfl | rfl | rfl <;> exact ⟨_, rfl, .cons (.cold rfl) .nil⟩
    · cases hp
      rw [hE]; rfl
    refine retTo_ex (out := ?_) ?_ ?_ ?_ ?_
    rotate_left 1
    · rfl
    · simp
    · rfl
    rw [hE]
    exact .w (.agg (.cons (.cold rfl) (.cons .nil (.cons .nil (.cons (.cold rfl) .nil)))))
  · have hh : 0 ≤ h ∧ h ≤ 4 := by
      have hc' : (bif decide (h < 0) then true else decide (h > 4)) = false := hc
      have h1 : ¬ h < 0 := fun hx => by rw [decide_eq_true hx] at hc'; cases hc'
      have h2 : ¬ h > 4 := fun hx => by rw [decide_eq_false h1, decide_eq_true hx] at hc'; cases hc'
      omega
    have hP : Prg.signI h = Prg.sign h.toNat := by unfold Prg.signI; rw [if_pos hh]
    rw [hP] at hstp ⊢
    refine tri_skip ?_
    change Tri _ _ _ _ _
    refine tri_reg M hI hn (outs := ?_) (s' := ?_) ?_ ?_ ?_ ?_
    rotate_left 2
    · rfl
    · kernel_rfl
    · simp
      refine ⟨hh, fun g h1 h2 _ => ?_⟩
      rw [← hstp]
      exact ⟨h1, h2⟩
    refine tri_reg M hI hn (outs := ?_) (s' := ?_) ?_ ?_ ?_ ?_
    rotate_left 2
    · rfl
    · kernel_rfl
    · simp
    refine tri_ret (fun a w hg => ⟨.inr rfl, _, ⟨?_, ?_, fun p hp => ?_⟩, hg⟩)
    rotate_left 1
    · intro o ho
      simp only [sgObs, List.mem_cons, List.not_mem_nil, or_false] at ho
      rcases ho with rfl | rfl | rfl <;> exact ⟨_, rfl, .cons (.cold rfl) .nil⟩
    · cases hp
      rfl
    refine retTo_ex (out := ?_) ?_ ?_ ?_ ?_
    rotate_left 1
    · rfl
    · simp
    · rfl
    exact .w (.agg (.cons (.cold rfl) (.cons (.cold rfl) (.cons (.cold rfl) (.cons (.cold rfl) .nil)))))
end Go.Proofs.YtihghljfmlbfhaaDoor.Pv


namespace Go.Proofs.YtihghljfmlbfhaaDoor
open Go.RowKit
theorem raiseTo_in17 (t : Nat) (h : t ≤ 16) : Prg.In 48 (Prg.raiseTo 2 16 t) := raiseTo_in 16 t h
theorem sign_in (h : Nat) (hh : h ≤ 4) : Prg.In 48 (Prg.sign h) := by
  unfold Prg.sign
  refine (levelOf_in 16).bind (levelOf_all 2 16) fun n hn => ?_
  have h16 : 2 ^ h ≤ 16 := pow_le16 h h (Nat.le_refl _) hh
  by_cases hg : 2 ^ h ≤ n
  · rw [if_pos hg]; trivial
  · rw [if_neg hg]
    exact (raiseTo_in17 (n + 1) (by omega)).bind' fun _ => trivial
theorem signI_in (h : Int) : Prg.In 48 (Prg.signI h) := by
  unfold Prg.signI
  split
  · exact sign_in _ (by omega)
  · trivial
theorem signI_within (h : Int) : (Prg.signI h).Within 399 := by
  unfold Prg.signI
  split
  · unfold Prg.sign
    refine Within.mono (n := 96 + 300) (Within.bindR (m := 300) (within_levelOf 2 16) (levelOf_all 2 16) fun n hn => ?_) (by omega)
    split
    · exact Within.mono (n := 0) trivial (by omega)
    · exact Within.mono (Within.bind (m := 0) (within_raiseTo 2 16 (n + 1)) fun _ => trivial) (by omega)
  · exact Within.mono (n := 0) trivial (by omega)
end Go.Proofs.YtihghljfmlbfhaaDoor


namespace Go.Proofs.YtihghljfmlbfhaaDoor.Pv
open Go.RowKit
def resPC (r : Res) : List PC := [.lit (.int .i64 r.val), .lit (.string r.bytes)]
def resF (l : List Res) : Nat → List PC := fun i => resPC (l.getD i ⟨0, noBytes⟩)
def resOf : List PC → Res
  | [.lit (.int _ n), .lit (.string s)] => ⟨n, s⟩
  | _ => ⟨0, noBytes⟩
def isRes : List PC → Bool
  | [.lit (.int .i64 _), .lit (.string _)] => true
  | _ => false
def rowRes (n : Nat) (f : Nat → List PC) : List Res := (List.range n).map fun i => resOf (f i)
def IsResRow (n : Nat) (f : Nat → List PC) : Prop := ∀ i, i < n → isRes (f i) = true
@[simp] theorem rowRes_length (n : Nat) (f : Nat → List PC) : (rowRes n f).length = n := by simp [rowRes]
@[simp] theorem isResRow_resF (n : Nat) (l : List Res) : IsResRow n (resF l) := fun _ _ => rfl
@[simp] theorem rowRes_resF (l : List Res) : rowRes l.length (resF l) = l := by
  apply List.ext_getElem (by simp)
  intro i h1 h2
  simp only [rowRes, List.getElem_map, List.getElem_range, resF, resPC, resOf]
  rw [List.getD_eq_getElem?_getD, List.getElem?_eq_getElem h2]
  rfl
def accPC (a : Acc) : List PC := [.lit (.int .i64 a.kind), .lit (.int .i64 a.bank), .lit (.int .i64 a.cell), .lit (.string a.bytes)]
end Go.Proofs.YtihghljfmlbfhaaDoor.Pv


namespace Go.Proofs.YtihghljfmlbfhaaDoor.Pv
open Go.RowKit
def u8F (l : List Int) : Nat → List PC := fun i => [.lit (.int .u8 (l.getD i 0))]
def u8Of : List PC → Int
  | [.lit (.int _ n)] => n
  | _ => 0
def isU8c : List PC → Bool
  | [.lit (.int .u8 _)] => true
  | _ => false
theorem isU8c_ok {l : List PC} (h : isU8c l = true) : l = [.lit (.int .u8 (u8Of l))] := by
  unfold isU8c at h
  split at h
  · rfl
  · cases h
def bkPC (l : List Int) : List PC := [.sl 1 l.length (u8F l)]
def bankF (b : List (List Int)) : Nat → List PC := fun i => bkPC (b.getD i [])
def bkOf : List PC → List Int
  | [.sl 1 k g] => (List.range k).map fun j => u8Of (g j)
  | _ => []
def IsBank : List PC → Prop
  | [.sl 1 k g] => ∀ j, j < k → isU8c (g j) = true
  | _ => False
def rowBk (n : Nat) (f : Nat → List PC) : List (List Int) := (List.range n).map fun i => bkOf (f i)
def IsBkRow (n : Nat) (f : Nat → List PC) : Prop := ∀ i, i < n → IsBank (f i)
@[simp] theorem rowBk_length (n : Nat) (f : Nat → List PC) : (rowBk n f).length = n := by simp [rowBk]
theorem bkOf_bkPC (l : List Int) : bkOf (bkPC l) = l := by
  apply List.ext_getElem (by simp [bkOf, bkPC])
  intro i h1 h2
  simp only [bkOf, bkPC, List.getElem_map, List.getElem_range, u8F, u8Of]
  rw [List.getD_eq_getElem?_getD, List.getElem?_eq_getElem h2]
  rfl
@[simp] theorem isBkRow_bankF (n : Nat) (b : List (List Int)) : IsBkRow n (bankF b) := fun _ _ => fun _ _ => rfl
@[simp] theorem rowBk_bankF (b : List (List Int)) : rowBk b.length (bankF b) = b := by
  apply List.ext_getElem (by simp)
  intro i h1 h2
  simp only [rowBk, List.getElem_map, List.getElem_range, bankF]
  rw [bkOf_bkPC, List.getD_eq_getElem?_getD, List.getElem?_eq_getElem h2]
  rfl
theorem bankF_row {n : Nat} {f : Nat → List PC} {C : Ctx} {fv : Value} (hf : IsBkRow n f) (h : R C (.sl 1 n f) [fv]) : R C (.sl 1 (rowBk n f).length (bankF (rowBk n f))) [fv] := by
  rw [rowBk_length]
  cases h with
  | sl hr hb he =>
    refine .sl hr hb (fun i hi => ?_)
    have h3 := he i hi
    have h4 := hf i hi
    have e2 : bankF (rowBk n f) i = bkPC (bkOf (f i)) := by
      unfold bankF rowBk
      rw [getD_map_range n i (fun i => bkOf (f i)) hi]
    rw [e2]
    generalize f i = c at h3 h4 ⊢
    unfold IsBank at h4
    split at h4
    · rename_i kk g
      generalize (List.take 1 _) = xs at h3 ⊢
      cases h3 with
      | cons k1 k2 =>
        cases k2
        refine .cons ?_ .nil
        show R _ (.sl 1 ((List.range kk).map fun j => u8Of (g j)).length (u8F ((List.range kk).map fun j => u8Of (g j)))) _
        rw [List.length_map, List.length_range]
        have hx := k1
        cases hx
        refine k1.sl_ext (fun j hj => ?_)
        unfold u8F
        rw [getD_map_range kk j (fun j => u8Of (g j)) hj]
        exact isU8c_ok (h4 j hj)
    · exact h4.elim
def fuPC (b : List (List Int)) : List PC := [.sl 1 b.length (bankF b)]
theorem fu_row {C : Ctx} {n : Nat} {f : Nat → List PC} {v : Value} (hf : IsBkRow n f) (h : RV C (.w (.agg [.sl 1 n f])) v) : RV C (.w (.agg (fuPC (rowBk n f)))) v := by
  cases h with
  | w h => cases h with
    | agg h =>
      refine .w (.agg ?_)
      generalize Array.toList _ = xs at h ⊢
      cases h with
      | cons k1 h => cases h; cases k1 with
        | sl h1 h2 h3 => exact .cons (xs := [_]) (bankF_row hf (.sl h1 h2 h3)) .nil
end Go.Proofs.YtihghljfmlbfhaaDoor.Pv


namespace Go.Proofs.YtihghljfmlbfhaaDoor
open Go.RowKit
abbrev Fl := List ByteArray
def sec (f : Fl) (s : Int) : List UInt8 := if 0 ≤ s ∧ s < f.length then (f.getD s.toNat noBytes).data.toList else []
def torn (cut : Int) (b old : List UInt8) : List UInt8 := if cut < 0 ∨ (b.length : Int) ≤ cut then b else b.take cut.toNat ++ old.drop cut.toNat
def fwrite (f : Fl) (s : Int) (b : ByteArray) (cut : Int) : Fl := if 0 ≤ s ∧ s < f.length ∧ b.size = 256 then f.set s.toNat (strOf (torn cut b.data.toList (sec f s))) else f
end Go.Proofs.YtihghljfmlbfhaaDoor


namespace Go.Proofs.YtihghljfmlbfhaaDoor.Pv
open Go.RowKit
theorem flNoM {I : World → Prop} : Mach Tryd.prog I (find ([] : List (Nat × Spec))) := ⟨fun f sp h => (by cases h), (by kernel_rfl)⟩
def fsF (l : List ByteArray) : Nat → List PC := fun i => [.lit (.string (l.getD i noBytes))]
def fsOf : List PC → ByteArray
  | [.lit (.string s)] => s
  | _ => noBytes
def isFs : List PC → Bool
  | [.lit (.string _)] => true
  | _ => false
theorem isFs_ok {l : List PC} (h : isFs l = true) : l = [.lit (.string (fsOf l))] := by
  unfold isFs at h
  split at h
  · rfl
  · cases h
def fsRow (n : Nat) (f : Nat → List PC) : List ByteArray := (List.range n).map fun i => fsOf (f i)
def IsFsRow (n : Nat) (f : Nat → List PC) : Prop := ∀ i, i < n → isFs (f i) = true
@[simp] theorem fsRow_length (n : Nat) (f : Nat → List PC) : (fsRow n f).length = n := by simp [fsRow]
theorem fsF_row {n : Nat} {f : Nat → List PC} (h : IsFsRow n f) : ∀ i, i < n → f i = fsF (fsRow n f) i := fun i hi => by
  unfold fsF fsRow
  rw [List.getD_eq_getElem?_getD, List.getElem?_map, List.getElem?_range hi]
  exact isFs_ok (h i hi)
@[simp] theorem isFsRow_fsF (n : Nat) (l : List ByteArray) : IsFsRow n (fsF l) := fun _ _ => rfl
@[simp] theorem fsRow_fsF (l : List ByteArray) : fsRow l.length (fsF l) = l := by
  apply List.ext_getElem (by simp)
  intro i h1 h2
  simp only [fsRow, List.getElem_map, List.getElem_range, fsF, fsOf]
  rw [List.getD_eq_getElem?_getD, List.getElem?_eq_getElem h2]
  rfl
theorem RL.head {C : Ctx} {c c' : PC} {l : List PC} (h : ∀ ys, R C c ys → R C c' ys) {xs : List Value} (hr : RL C (c :: l) xs) : RL C (c' :: l) xs := by
  cases hr with
  | cons h1 h2 => exact .cons (h _ h1) h2
def flPC (f : Fl) : List PC := [.sl 1 f.length (fsF f)]
end Go.Proofs.YtihghljfmlbfhaaDoor.Pv
