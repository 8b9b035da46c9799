/-
  The law TreesigSharesPaths.
-/
import Derived.Test.YtjemfefkgfoikaaDoorTpK
import Derived.Test.YtjemfefkgfoikaaDoorTpL
namespace Go.Proofs.YtjemfefkgfoikaaDoor
open Go.RowKit

/-- What the loop leans on. -/
structure T6 (w : World) (gr : Nat) (sa ma ra : Array Value) (W : World) : Prop where
  ext : Ext w W
  seed : Blk W w.heap.size 23 sa
  msg : Blk W (w.heap.size + 1) 23 ma
  root : Blk W gr 23 ra
theorem T6.to {w : World} {gr : Nat} {sa ma ra : Array Value} {W W' : World} (h : T6 w gr sa ma ra W) (hE : Ext W W') : T6 w gr sa ma ra W' := ⟨h.ext.trans hE, h.seed.ext hE, h.msg.ext hE, h.root.ext hE⟩
theorem ne_same16 {l : List UInt8} {r : Array Value} (h : (l.map u8v).toArray = r) (hl : l.length = 16) : ∀ W, (binOp .neq 23 (.agg r) (.agg r)).run Tryd.prog W = .ok (.bool false) W := fun W => by
  rw [← h, ne16 hl hl]; simp

set_option maxRecDepth 100000 in
set_option maxHeartbeats 16000000 in
theorem lawT6_any (seed msg : List UInt8) (hh : Nat) (w : World) (hM : ShaMem w) (hv : seed.length = 16) (hm : msg.length = 16) (hb1 : hh < 256) :
    Calls Tryd.prog 14 #[.agg (seed.map u8v).toArray, .int .u8 (hh : Int), .agg (msg.map u8v).toArray] w fun e w' => e = .returned (.bool true) ∧ Ext w w' := by
  obtain ⟨k, hk⟩ : ∃ k, 1 + hh % 3 = k := ⟨_, rfl⟩
  have hk4 : k ≤ 4 := by omega
  obtain ⟨n, hn⟩ : ∃ n, n = 2 ^ k := ⟨_, rfl⟩
  have hn16 : n ≤ 16 := by subst hn; exact pow_le16 k k (Nat.le_refl _) hk4
  have HSan := hide (fun W (hE : Ext w W) => sanity5_any W (hM.ext hE))
  have HMn := hide (fun W => many_yes k n hn hk4 W)
  have hrl := rootS_length (leavesS seed n)
  have hR1 := fun W (hE : Ext w W) => troot_yes seed k n hn hk4 W hv (hM.ext hE)
  have hS1 := fun j (hj : j < n) W (hE : Ext w W) => show Calls Tryd.prog 30 #[.agg (seed.map u8v).toArray, .int .i64 (k : Int), .int .i64 (j : Int), .agg (msg.map u8v).toArray] W fun e w' => ∃ A c B d, e = .returned (.tuple #[.agg #[.int .i64 (j : Int), .slice A 68 c, .slice B k d], .int .i64 0]) ∧ Digs w' (.slice A 68 c) (signS seed (j : Int) msg 68) ∧ Digs w' (.slice B k d) (proveS (leavesS seed n) j) ∧ Ext W w' from by
    refine ((tsign_yes seed msg k n hn hk4 j hj W hv hm (hM.ext hE)).mono fun _ _ h => SignP.of_post h).mono fun e w' h => ?_
    obtain ⟨A, c, B, d, h1, h2, h3, h4⟩ := h
    rw [signS_length] at h1 h2
    rw [prove_height k n hn hk4 seed j hj] at h1 h3
    exact ⟨A, c, B, d, h1, h2, h3, h4⟩
  have hRc := fun j (cv : Value) W (hE : Ext w W) (h1 : Digs W cv (signS seed ((j : Nat) : Int) msg 68)) => recover_yes msg (signS seed ((j : Nat) : Int) msg 68) cv W (hM.ext hE) hm (signS_length _ _ _ _) h1
  simp only [recover_sign5] at hRc
  have hPb := fun j (hj : j < n) W (hE : Ext w W) => public_any seed ((j : Nat) : Int) W (hM.ext hE) hv (by omega) (by omega)
  have hV := fun j (hj : j < n) (cv pv : Value) W (hE : Ext w W) (h1 : Digs W cv (signS seed ((j : Nat) : Int) msg 68)) (h2 : Digs W pv (proveS (leavesS seed n) j)) => tver_in (rootS (leavesS seed n)) msg k n hn hk4 j hj (signS seed ((j : Nat) : Int) msg 68) (proveS (leavesS seed n) j) cv pv W (hM.ext hE) hrl hm h1 h2 (by rw [prove_height k n hn hk4 seed j hj]; omega) (signS_length _ _ _ _)
  obtain ⟨sa, hsa⟩ : ∃ x, (seed.map u8v).toArray = x := ⟨_, rfl⟩
  obtain ⟨ma, hma⟩ : ∃ x, (msg.map u8v).toArray = x := ⟨_, rfl⟩
  obtain ⟨ra, hra⟩ : ∃ x, ((rootS (leavesS seed n)).map u8v).toArray = x := ⟨_, rfl⟩
  have HSZ := hide (show sa.size = 16 ∧ ma.size = 16 ∧ ra.size = 16 ∧ ra.all (·.oneCell') = true from by rw [← hsa, ← hma, ← hra]; exact ⟨by simpa using hv, by simpa using hm, by simpa using hrl, bytes_one _⟩)
  simp only [hsa, hra] at hR1
  simp only [hsa, hma] at hS1
  simp only [hma] at hRc
  simp only [hsa] at hPb
  simp only [hra, hma] at hV
  rw [hsa, hma]
  have HR1 := hide hR1
  have HS1 := hide hS1
  have HRc := hide hRc
  have HPb := hide hPb
  have HVf := hide (fun j (hj : j < n) (cv pv : Value) W (hE : Ext w W) h1 h2 => show Calls Tryd.prog 34 #[.agg ra, .int .i64 (k : Int), .agg ma, .agg #[.int .i64 (j : Int), cv, pv]] W fun e w' => e = .returned (.bool true) ∧ Ext W w' from by have := hV j hj cv pv W hE h1 h2; rw [own_verifies seed msg n j hj] at this; exact this)
  have HPL := hide (publicS_length seed)
  have e3 : IntKind.i64.wrap (1 + (hh : Int) % 3) = (k : Int) := by rw [IntKind.wrap_i64]; omega
  have e3' : (hh : Int) % 3 + 1 = (k : Int) := by omega
  have e3'' : 1 + (hh : Int) % 3 = (k : Int) := by omega
  have HE3 := hide e3''
  clear e3 e3' e3''
  clear hM hv hm hrl hR1 hS1 hRc hPb hV hsa hma hra hn hk
  go_enter Tryd.func14, Tryd.ntmps14
  go_upto_region 2 with (go_at_call 27; refine (unhide HSan _ (((Ext.refl w).alloc _).alloc _)).mono ?_; rintro e w1 ⟨rfl, hE1⟩; have H1 := hide (And.intro ((((Ext.refl w).alloc _).alloc _).trans hE1) (And.intro (((Blk.new w 23 sa).alloc _).ext hE1) ((Blk.new' (w.alloc (.cells sa 23)) 23 ma (g := w.heap.size + 1) (by simp)).ext hE1))); clear hE1)
  go_upto_region 3 with fail
  have e3 := unhide HE3
  first | rw [e3] | skip
  clear e3
  go_upto_region 4 with (first
    | (refine wpList_loadB (ty := 23) (t := 23) (x := .tmp 3) rfl rfl digest_wide rfl (cs := sa) (unhide H1).2.1 (unhide HSZ).1 ?_)
    | (go_at_call 28; refine (unhide HR1 _ (unhide H1).1).mono ?_; rintro e w2 ⟨rfl, hE2⟩; have H2 := hide hE2; clear hE2)
    | (refine wpList_storeB (ty := 23) (t := 23) (x := .tmp 9) (y := .tmp 25) rfl rfl digest_wide rfl rfl (Blk.new w2 _ _) rfl (unhide HSZ).2.2.1 (unhide HSZ).2.2.2 ?_; intro w3 hb3 hc3 hz3; have H3 := hide (show T6 w w2.heap.size sa ma ra w3 from ⟨(unhide H1).1.trans (made_ext (unhide H2) hc3), (unhide H1).2.1.ext (made_ext (unhide H2) hc3), (unhide H1).2.2.ext (made_ext (unhide H2) hc3), hb3⟩); clear hb3 hc3 hz3))
  obtain ⟨g9, hg9⟩ : ∃ x, w2.heap.size = x := ⟨_, rfl⟩
  rw [hg9] at H3 ⊢
  clear hg9 H1 H2
  go_wp2_with fail
  go_loopw [11] (fun x wr => ∃ j : Nat, x = .int .i64 j ∧ j ≤ n ∧ Hid (T6 w g9 sa ma ra wr)) (fun x _ => n - (intOf x).toNat)
  case atStart => exact ⟨0, rfl, by omega, H3⟩
  case round =>
    obtain ⟨j, rfl, hj, HI⟩ := hrel
    by_cases hlt : j < n
    · have hltI : (j : Int) < (n : Int) := by omega
      have HSj := hide (unhide HS1 j hlt)
      have HRj := hide (unhide HRc j)
      have HPj := hide (unhide HPb j hlt)
      have HVj := hide (unhide HVf j hlt)
      have hpl := unhide HPL ((j : Nat) : Int)
      have hne := ne_same16 (r := ((publicS seed ((j : Nat) : Int)).map u8v).toArray) rfl hpl
      have HPS := hide (show ((publicS seed ((j : Nat) : Int)).map u8v).toArray.size = 16 ∧ ((publicS seed ((j : Nat) : Int)).map u8v).toArray.all (·.oneCell') = true from ⟨by simpa using hpl, bytes_one _⟩)
      clear hpl
      generalize ((publicS seed ((j : Nat) : Int)).map u8v).toArray = pb at *
      generalize signS seed ((j : Nat) : Int) msg 68 = ch at *
      generalize proveS (leavesS seed n) j = pa at *
      go_upto_region 10 with (first
        | (go_at_call 37; refine (unhide HMn _).mono ?_; rintro e wz ⟨rfl, rfl⟩)
        | (refine wpList_loadB (ty := 23) (t := 23) (x := .tmp 3) rfl rfl digest_wide rfl (cs := sa) (unhide HI).seed (unhide HSZ).1 ?_)
        | (refine wpList_loadB (ty := 23) (t := 23) (x := .tmp 5) rfl rfl digest_wide rfl (cs := ma) (unhide HI).msg (unhide HSZ).2.1 ?_)
        | (go_at_call 30; refine (unhide HSj _ (unhide HI).ext).mono ?_; rintro e w4 ⟨A, c, B, d, rfl, hd1, hd2, hE4⟩; have H4 := hide (And.intro hE4 (And.intro hd1 hd2)); clear hE4 hd1 hd2))
      have H5 := hide (show T6 w g9 sa ma ra (w4.alloc (.cells #[.int .i64 (j : Int), .slice A 68 c, .slice B k d] 47)) ∧ Blk (w4.alloc (.cells #[.int .i64 (j : Int), .slice A 68 c, .slice B k d] 47)) w4.heap.size 47 #[.int .i64 (j : Int), .slice A 68 c, .slice B k d] ∧ Digs (w4.alloc (.cells #[.int .i64 (j : Int), .slice A 68 c, .slice B k d] 47)) (.slice A 68 c) ch ∧ Digs (w4.alloc (.cells #[.int .i64 (j : Int), .slice A 68 c, .slice B k d] 47)) (.slice B k d) pa from
        ⟨((unhide HI).to (unhide H4).1).to ((Ext.refl _).alloc _), Blk.new _ _ _, (unhide H4).2.1.ext ((Ext.refl _).alloc _), (unhide H4).2.2.ext ((Ext.refl _).alloc _)⟩)
      generalize w4.alloc (.cells #[.int .i64 (j : Int), .slice A 68 c, .slice B k d] 47) = W5 at *
      obtain ⟨g12, hg12⟩ : ∃ x, w4.heap.size = x := ⟨_, rfl⟩
      rw [hg12] at H5 ⊢
      clear hg12 H4
      obtain ⟨a0, a1, a2, _, _⟩ := (unhide H5).2.1.cells3
      go_upto_region 11 with (first
        | (refine wpList_loadB (ty := 23) (t := 23) (x := .tmp 5) rfl rfl digest_wide rfl (cs := ma) (unhide H5).1.msg (unhide HSZ).2.1 ?_)
        | (go_at_call 18; refine (unhide HRj _ _ (unhide H5).1.ext (unhide H5).2.2.1).mono ?_; rintro e w6 ⟨rfl, hE6⟩; have H6 := hide hE6; clear hE6)
        | (refine wpList_storeB (ty := 23) (t := 23) (x := .tmp 14) (y := .tmp 48) rfl rfl digest_wide rfl rfl (Blk.new w6 _ _) rfl (unhide HPS).1 (unhide HPS).2 ?_; intro w7 hb7 hc7 hz7; have H7 := hide (And.intro (made_ext (unhide H6) hc7) hb7); clear hb7 hc7 hz7))
      obtain ⟨g14, hg14⟩ : ∃ x, w6.heap.size = x := ⟨_, rfl⟩
      rw [hg14] at H7 ⊢
      clear hg14 H6 a0 a1 a2
      have HF : Hid (∀ W, Ext w7 W → W.cell? ⟨g12, 0, none⟩ = some (.int .i64 (j : Int)) ∧ W.cell? ⟨g12, 1, none⟩ = some (.slice A 68 c) ∧ W.cell? ⟨g12, 2, none⟩ = some (.slice B k d)) := hide (fun W hW => by
        obtain ⟨p0, p1, p2, _, _⟩ := ((unhide H5).2.1.ext ((unhide H7).1.trans hW)).cells3
        exact ⟨p0, p1, p2⟩)
      refine wp_region_held_drew (S := fun W => Ext w7 W) (by kernel_rfl) ((Ext.refl _).drew) (fun hHeld => ?_)
      refine wpAnyH_take (i := 0) (oi := _) (v := ?_) rfl (by kernel_rfl) (by kernel_rfl) (by kernel_rfl) (fun _ _ _ h => h) (Or.inl ⟨by rfl, fun wz hSz => ?_⟩) (by assumption) ?_
      rotate_left
      · (first | (go_simp; done) | (go_simp; with_reducible rfl) | (obtain ⟨f1, f2, f3⟩ := (unhide HF) wz hSz; clear hSz; first | (go_simp; done) | (go_simp; with_reducible rfl)))
      try simp only [Act.put, List.setIfInBounds_toArray, List.set_cons_zero, List.set_cons_succ, List.getElem_toArray, List.getElem_cons_succ, List.getElem_cons_zero]
      refine wpAnyH_take (i := 1) (oi := _) (v := ?_) rfl (by kernel_rfl) (by kernel_rfl) (by kernel_rfl) (fun _ _ _ h => h) (Or.inl ⟨by rfl, fun wz hSz => ?_⟩) (by assumption) ?_
      rotate_left
      · (first | (go_simp; done) | (go_simp; with_reducible rfl) | (obtain ⟨f1, f2, f3⟩ := (unhide HF) wz hSz; clear hSz; first | (go_simp; done) | (go_simp; with_reducible rfl)))
      try simp only [Act.put, List.setIfInBounds_toArray, List.set_cons_zero, List.set_cons_succ, List.getElem_toArray, List.getElem_cons_succ, List.getElem_cons_zero]
      refine wpAnyH_take (i := 2) (oi := _) (v := ?_) rfl (by kernel_rfl) (by kernel_rfl) (by kernel_rfl) (fun _ _ _ h => h) (Or.inl ⟨by rfl, fun wz hSz => ?_⟩) (by assumption) ?_
      rotate_left
      · (first | (go_simp; done) | (go_simp; with_reducible rfl) | (obtain ⟨f1, f2, f3⟩ := (unhide HF) wz hSz; clear hSz; first | (go_simp; done) | (go_simp; with_reducible rfl)))
      try simp only [Act.put, List.setIfInBounds_toArray, List.set_cons_zero, List.set_cons_succ, List.getElem_toArray, List.getElem_cons_succ, List.getElem_cons_zero]
      refine wpAnyH_take (i := 3) (oi := _) (v := ?_) rfl (by kernel_rfl) (by kernel_rfl) (by kernel_rfl) (fun _ _ _ h => h) (Or.inl ⟨by rfl, fun wz hSz => ?_⟩) (by assumption) ?_
      rotate_left
      · (first | (go_simp; done) | (go_simp; with_reducible rfl) | (obtain ⟨f1, f2, f3⟩ := (unhide HF) wz hSz; clear hSz; first | (go_simp; done) | (go_simp; with_reducible rfl)))
      try simp only [Act.put, List.setIfInBounds_toArray, List.set_cons_zero, List.set_cons_succ, List.getElem_toArray, List.getElem_cons_succ, List.getElem_cons_zero]
      refine wpAnyH_take (i := 4) (oi := _) (v := ?_) rfl (by kernel_rfl) (by kernel_rfl) (by kernel_rfl) (fun _ _ _ h => h) (Or.inl ⟨by rfl, fun wz hSz => ?_⟩) (by assumption) ?_
      rotate_left
      · (first | (go_simp; done) | (go_simp; with_reducible rfl) | (obtain ⟨f1, f2, f3⟩ := (unhide HF) wz hSz; clear hSz; first | (go_simp; done) | (go_simp; with_reducible rfl)))
      try simp only [Act.put, List.setIfInBounds_toArray, List.set_cons_zero, List.set_cons_succ, List.getElem_toArray, List.getElem_cons_succ, List.getElem_cons_zero]
      refine wpAnyH_take (i := 5) (oi := _) (v := ?_) rfl (by kernel_rfl) (by kernel_rfl) (by kernel_rfl) (fun _ _ _ h => h) (Or.inl ⟨by rfl, fun wz hSz => ?_⟩) (by assumption) ?_
      rotate_left
      · (first | (go_simp; done) | (go_simp; with_reducible rfl) | (obtain ⟨f1, f2, f3⟩ := (unhide HF) wz hSz; clear hSz; first | (go_simp; done) | (go_simp; with_reducible rfl)))
      try simp only [Act.put, List.setIfInBounds_toArray, List.set_cons_zero, List.set_cons_succ, List.getElem_toArray, List.getElem_cons_succ, List.getElem_cons_zero]
      refine wpAnyH_take (i := 6) (oi := _) (v := ?_) rfl (by kernel_rfl) (by kernel_rfl) (by kernel_rfl) (fun _ _ _ h => h) (Or.inl ⟨by rfl, fun wz hSz => ?_⟩) (by assumption) ?_
      rotate_left
      · (first | (go_simp; done) | (go_simp; with_reducible rfl) | (obtain ⟨f1, f2, f3⟩ := (unhide HF) wz hSz; clear hSz; first | (go_simp; done) | (go_simp; with_reducible rfl)))
      try simp only [Act.put, List.setIfInBounds_toArray, List.set_cons_zero, List.set_cons_succ, List.getElem_toArray, List.getElem_cons_succ, List.getElem_cons_zero]
      refine wpAnyH_take (i := 7) (oi := _) (v := _) rfl (by kernel_rfl) (by kernel_rfl) (by kernel_rfl) (fun _ _ _ h => h) (ylb digest_wide rfl (by rfl) rfl (unhide HPS).1 (fun w' hw => (unhide H7).2.ext hw)) (by assumption) ?_
      try simp only [Act.put, List.setIfInBounds_toArray, List.set_cons_zero, List.set_cons_succ, List.getElem_toArray, List.getElem_cons_succ, List.getElem_cons_zero]
      refine wpAnyH_take (i := 8) (oi := _) (v := _) rfl (by kernel_rfl) (by kernel_rfl) (by kernel_rfl) (fun _ _ _ h => h) (ylb digest_wide rfl (by rfl) rfl (unhide HSZ).1 (fun w' hw => (unhide H5).1.seed.ext ((unhide H7).1.trans hw))) (by assumption) ?_
      try simp only [Act.put, List.setIfInBounds_toArray, List.set_cons_zero, List.set_cons_succ, List.getElem_toArray, List.getElem_cons_succ, List.getElem_cons_zero]
      refine wpAnyH_take (i := 9) (oi := _) (v := ?_) rfl (by kernel_rfl) (by kernel_rfl) (by kernel_rfl) (fun _ _ _ h => h) (Or.inl ⟨by rfl, fun wz hSz => ?_⟩) (by assumption) ?_
      rotate_left
      · (first | (go_simp; done) | (go_simp; with_reducible rfl) | (obtain ⟨f1, f2, f3⟩ := (unhide HF) wz hSz; clear hSz; first | (go_simp; done) | (go_simp; with_reducible rfl)))
      try simp only [Act.put, List.setIfInBounds_toArray, List.set_cons_zero, List.set_cons_succ, List.getElem_toArray, List.getElem_cons_succ, List.getElem_cons_zero]
      refine wpAnyH_ready (rs := [10]) (by kernel_rfl) (by simp) (AllReadyH.cons (o := _) rfl (fun K hK => ?_) AllReadyH.nil)
      try go_simp
      (refine (unhide HPj _ ((unhide H5).1.ext.trans ((unhide H7).1.trans hHeld))).mono ?_; rintro e w8 ⟨rfl, hE8⟩; have hS := Ext.trans hHeld hE8; clear hHeld hE8)
      refine hK.out _ _ ?_ (fun hHeld => ?_)
      · exact hS
      clear hK K
      try simp only [Act.put, List.setIfInBounds_toArray, List.set_cons_zero, List.set_cons_succ, List.getElem_toArray, List.getElem_cons_succ, List.getElem_cons_zero]
      refine wpAnyH_take (i := 11) (oi := _) (v := ?_) rfl (by kernel_rfl) (by kernel_rfl) (by kernel_rfl) (fun _ _ _ h => h) (Or.inl ⟨by rfl, fun wz hSz => ?_⟩) (by assumption) ?_
      rotate_left
      · (first | (go_simp; done) | (go_simp; with_reducible rfl) | (obtain ⟨f1, f2, f3⟩ := (unhide HF) wz hSz; clear hSz; first | (go_simp; done) | (go_simp; with_reducible rfl)))
      try simp only [Act.put, List.setIfInBounds_toArray, List.set_cons_zero, List.set_cons_succ, List.getElem_toArray, List.getElem_cons_succ, List.getElem_cons_zero]
      refine wpAnyH_take (i := 12) (oi := _) (v := ?_) rfl (by kernel_rfl) (by kernel_rfl) (by kernel_rfl) (fun _ _ _ h => h) (Or.inl ⟨by rfl, fun wz hSz => ?_⟩) (by assumption) ?_
      rotate_left
      · (first | (go_simp; done) | (go_simp; with_reducible rfl) | (obtain ⟨f1, f2, f3⟩ := (unhide HF) wz hSz; clear hSz; first | (go_simp; done) | (go_simp; with_reducible rfl)))
      try simp only [Act.put, List.setIfInBounds_toArray, List.set_cons_zero, List.set_cons_succ, List.getElem_toArray, List.getElem_cons_succ, List.getElem_cons_zero]
      refine wpAnyH_take (i := 13) (oi := _) (v := ?_) rfl (by kernel_rfl) (by kernel_rfl) (by kernel_rfl) (fun _ _ _ h => h) (Or.inl ⟨by rfl, fun wz hSz => ?_⟩) (by assumption) ?_
      rotate_left
      · (first | (go_simp; done) | (go_simp; with_reducible rfl) | (obtain ⟨f1, f2, f3⟩ := (unhide HF) wz hSz; clear hSz; first | (go_simp; done) | (go_simp; with_reducible rfl)))
      try simp only [Act.put, List.setIfInBounds_toArray, List.set_cons_zero, List.set_cons_succ, List.getElem_toArray, List.getElem_cons_succ, List.getElem_cons_zero]
      refine wpAnyH_take (i := 14) (oi := _) (v := _) rfl (by kernel_rfl) (by kernel_rfl) (by kernel_rfl) (fun _ _ _ h => h) (ylb digest_wide rfl (by rfl) rfl (unhide HSZ).2.2.1 (fun w' hw => (unhide H5).1.root.ext ((unhide H7).1.trans hw))) (by assumption) ?_
      try simp only [Act.put, List.setIfInBounds_toArray, List.set_cons_zero, List.set_cons_succ, List.getElem_toArray, List.getElem_cons_succ, List.getElem_cons_zero]
      refine wpAnyH_take (i := 15) (oi := _) (v := ?_) rfl (by kernel_rfl) (by kernel_rfl) (by kernel_rfl) (fun _ _ _ h => h) (Or.inl ⟨by rfl, fun wz hSz => ?_⟩) (by assumption) ?_
      rotate_left
      · (first | (go_simp; done) | (go_simp; with_reducible rfl) | (obtain ⟨f1, f2, f3⟩ := (unhide HF) wz hSz; clear hSz; first | (go_simp; done) | (go_simp; with_reducible rfl)))
      try simp only [Act.put, List.setIfInBounds_toArray, List.set_cons_zero, List.set_cons_succ, List.getElem_toArray, List.getElem_cons_succ, List.getElem_cons_zero]
      refine wpAnyH_take (i := 16) (oi := _) (v := _) rfl (by kernel_rfl) (by kernel_rfl) (by kernel_rfl) (fun _ _ _ h => h) (ylb digest_wide rfl (by rfl) rfl (unhide HSZ).2.1 (fun w' hw => (unhide H5).1.msg.ext ((unhide H7).1.trans hw))) (by assumption) ?_
      try simp only [Act.put, List.setIfInBounds_toArray, List.set_cons_zero, List.set_cons_succ, List.getElem_toArray, List.getElem_cons_succ, List.getElem_cons_zero]
      refine wpAnyH_take (i := 17) (oi := _) (v := ?_) rfl (by kernel_rfl) (by kernel_rfl) (by kernel_rfl) (fun _ _ _ h => h) (Or.inl ⟨by rfl, fun wz hSz => ?_⟩) (by assumption) ?_
      rotate_left
      · (first | (go_simp; done) | (go_simp; with_reducible rfl) | (obtain ⟨f1, f2, f3⟩ := (unhide HF) wz hSz; clear hSz; first | (go_simp; done) | (go_simp; with_reducible rfl)))
      try simp only [Act.put, List.setIfInBounds_toArray, List.set_cons_zero, List.set_cons_succ, List.getElem_toArray, List.getElem_cons_succ, List.getElem_cons_zero]
      refine wpAnyH_ready (rs := [18]) (by kernel_rfl) (by simp) (AllReadyH.cons (o := _) rfl (fun K hK => ?_) AllReadyH.nil)
      try go_simp
      (refine (unhide HVj _ _ _ ((unhide H5).1.ext.trans ((unhide H7).1.trans hHeld)) ((unhide H5).2.2.1.ext ((unhide H7).1.trans hHeld)) ((unhide H5).2.2.2.ext ((unhide H7).1.trans hHeld))).mono ?_; rintro e w9 ⟨rfl, hE9⟩; have hS := Ext.trans hHeld hE9; clear hHeld hE9)
      refine hK.out _ _ ?_ (fun hHeld => ?_)
      · exact hS
      clear hK K
      try simp only [Act.put, List.setIfInBounds_toArray, List.set_cons_zero, List.set_cons_succ, List.getElem_toArray, List.getElem_cons_succ, List.getElem_cons_zero]
      refine wpAnyH_take (i := 19) (oi := _) (v := ?_) rfl (by kernel_rfl) (by kernel_rfl) (by kernel_rfl) (fun _ _ _ h => h) (Or.inl ⟨by rfl, fun wz hSz => ?_⟩) (by assumption) ?_
      rotate_left
      · (first | (go_simp; done) | (go_simp; with_reducible rfl) | (obtain ⟨f1, f2, f3⟩ := (unhide HF) wz hSz; clear hSz; first | (go_simp; done) | (go_simp; with_reducible rfl)))
      try simp only [Act.put, List.setIfInBounds_toArray, List.set_cons_zero, List.set_cons_succ, List.getElem_toArray, List.getElem_cons_succ, List.getElem_cons_zero]
      refine wpAnyH_take (i := 20) (oi := _) (v := ?_) rfl (by kernel_rfl) (by kernel_rfl) (by kernel_rfl) (fun _ _ _ h => h) (Or.inl ⟨by rfl, fun wz hSz => ?_⟩) (by assumption) ?_
      rotate_left
      · (first | (go_simp; done) | (go_simp; with_reducible rfl) | (obtain ⟨f1, f2, f3⟩ := (unhide HF) wz hSz; clear hSz; first | (go_simp; done) | (go_simp; with_reducible rfl)))
      try simp only [Act.put, List.setIfInBounds_toArray, List.set_cons_zero, List.set_cons_succ, List.getElem_toArray, List.getElem_cons_succ, List.getElem_cons_zero]
      refine wpAnyH_done (by kernel_rfl) ?_ _
      have H9 := hide ((unhide H5).1.to ((unhide H7).1.trans hHeld))
      clear hHeld hne
      go_wp2
      go_roundw
      case rel => exact ⟨j + 1, by go_num, by omega, H9⟩
      case measure => simp [intOf]; omega
    · obtain rfl : j = n := by omega
      go_wp2_with (go_at_call 37; refine (unhide HMn _).mono ?_; rintro e wz ⟨rfl, rfl⟩)
      go_ret
      exact ⟨rfl, (unhide HI).ext⟩

end Go.Proofs.YtjemfefkgfoikaaDoor
