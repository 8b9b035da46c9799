/-
  Several texts in one file: each has its own heading below.
-/
import Derived.Test.YtoefmncdloffaaaDoorSqL
import Derived.WalkMore


namespace Go.Proofs.YtoefmncdloffaaaDoor
open Go.RowKit
theorem nsec_lt {b : List UInt8} {k : Nat} (h : k < nsec b) : 256 * k < b.length := by unfold nsec at h; omega
theorem nsec_ge {b : List UInt8} {k : Nat} (h : ¬ k < nsec b) : b.length ≤ 256 * k := by unfold nsec at h; omega
theorem repL_zero (n : Nat) : Lib.repeatL [(0 : UInt8)] n = List.replicate n 0 := by
  induction n with
  | zero => rfl
  | succ n ih => rw [Lib.repeatL, ih]; rfl
theorem secS_str (b : List UInt8) (k n : Nat) (hn : n = 256 - ((b.drop (256 * k)).take 256).length) : (strOf ((b.drop (256 * k)).take 256)) ++ (⟨(Lib.repeatL (ByteArray.mk #[0]).data.toList n).toArray⟩ : ByteArray) = strOf (secS b k) := by
  subst hn
  unfold secS
  rw [show (ByteArray.mk #[0]).data.toList = [0] from rfl, repL_zero]
  apply ByteArray.ext
  rw [ByteArray.data_append]
  simp [strOf]
theorem kps_cell {S : Nat → Prop} {n0 g o : Nat} {W W' : World} {v : Value} (h : KpS S n0 W W') (hg : g < n0) (hS : ¬ S g) (hc : W.cell? ⟨g, o, none⟩ = some v) : W'.cell? ⟨g, o, none⟩ = some v := by
  have := h g hg hS
  unfold World.cell? at hc ⊢
  dsimp only at hc ⊢
  rw [this]
  exact hc
attribute [local go_sem] Oper.semAt_some
set_option maxRecDepth 100000 in
set_option maxHeartbeats 4000000 in
theorem sectors_pan (b : List UInt8) (hb : b.length ≤ 3000) (hb0 : 0 < b.length) (B G c : Nat) (S : Nat → Prop) (w : World) (hs1 : ¬ S B) (hs2 : ¬ S G)
    (h1 : w.cell? ⟨B, 0, none⟩ = some (.slice (some ⟨G, 0, none⟩) b.length c)) (hc1 : b.length ≤ c) (hc2 : c ≤ maxLen) (hB : B < w.heap.size) (hG : G < w.heap.size) (h2 : w.rangeAt G 0 (b.map u8v)) :
    SeqPan Tryd.prog 154 #[.pointer (some ⟨B, 0, none⟩)] (fun k => #[.int .i64 (k : Int), .string (strOf (secS b k))]) S (nsec b) w := by
  intro l J Pn W hW hJ hY h0
  have hE := Ext.of_below hW
  have k1 := Ext.cellv hE h1
  have HG := hide (show W.rangeAt G 0 (b.map u8v) from fun j v hj => Ext.cellv hE (h2 j v hj))
  have HSZ := hide (And.intro hs1 (And.intro hs2 (And.intro hB hG)))
  clear h1 h2 hE hW hs1 hs2
  refine callsIn_wide.2 ?_
  go_enter Tryd.func154, Tryd.ntmps154
  go_wp2
  go_loopw [3] (fun i wr => ∃ k : Nat, k ≤ nsec b ∧ i = .int .i64 k ∧ Hid (J k wr ∧ wr.cell? ⟨B, 0, none⟩ = some (.slice (some ⟨G, 0, none⟩) b.length c) ∧ wr.rangeAt G 0 (b.map u8v))) (fun i _ => nsec b - (intOf i).toNat)
  case atStart => exact ⟨0, Nat.zero_le _, rfl, hide ⟨h0, k1, unhide HG⟩⟩
  case round =>
    obtain ⟨k, hk, rfl, HJ⟩ := hrel
    have hkB : k ≤ 12 := by have : nsec b ≤ 12 := by { unfold nsec; omega }; omega
    have hw1 : wrap64 ((k : Int) * 256) = (k : Int) * 256 := by unfold wrap64; omega
    have hw2 : wrap64 ((k : Int) + 1) = (k : Int) + 1 := by unfold wrap64; omega
    have hw3 : wrap64 (((k : Int) + 1) * 256) = ((k : Int) + 1) * 256 := by unfold wrap64; omega
    have k2 := (unhide HJ).2.1
    by_cases hlt : k < nsec b
    · have hI : (k : Int) * 256 < (b.length : Int) := by have := nsec_lt hlt; omega
      have hm : ((b.drop (256 * k)).take 256).length = (min (((k : Int) + 1) * 256) (b.length : Int)).toNat - k * 256 := by
        rw [List.length_take, List.length_drop]; omega
      have HR : Hid (Reads wr 1 (.slice (some ⟨G, k * 256, none⟩) ((min (((k : Int) + 1) * 256) (b.length : Int)).toNat - k * 256) (c - k * 256)) ((min (((k : Int) + 1) * 256) (b.length : Int)).toNat - k * 256) (((b.drop (256 * k)).take 256).map u8v)) := by
        refine hide ⟨by rw [List.length_map, hm, Nat.mul_one], some ⟨G, k * 256, none⟩, _, rfl, by omega, by omega, fun _ => ⟨G, k * 256, rfl, fun j v hj => ?_⟩⟩
        have h5 := (unhide HJ).2.2 (k * 256 + j) v (by
          rw [List.getElem?_map] at hj ⊢
          rw [List.getElem?_take] at hj
          split at hj
          · rw [List.getElem?_drop] at hj
            rw [Nat.mul_comm k 256]
            exact hj
          · cases hj)
        rw [Nat.zero_add] at h5
        exact h5
      generalize hpt : (b.drop (256 * k)).take 256 = pt at *
      go_upto_region 4 with fail
      generalize hcc : c - k * 256 = cc at *
      generalize hmm : (min (((k : Int) + 1) * 256) (b.length : Int)).toNat - k * 256 = m at *
      have hm2 : m ≤ 256 := by omega
      have hw4 : IntKind.i64.wrap (256 - (m : Int)) = ((256 - m : Nat) : Int) := (Pv.wrap_i64_id (by omega) (by omega)).trans (by omega)
      have HSS : Hid (strOf pt ++ (⟨(Lib.repeatL [0] (256 - m)).toArray⟩ : ByteArray) = strOf (secS b k)) := hide (by have := secS_str b k (256 - m) (by rw [hpt, hm]); rw [hpt] at this; exact this)
      have hSL : ¬ (9223372036854775807 < (strOf pt).size + (Lib.repeatL [(0 : UInt8)] (256 - m)).length) := by
        rw [repL_zero, List.length_replicate, strOf_size, hm]; omega
      have HREP := hide (fun w => repeatS_any (ByteArray.mk #[0]) (256 - m) w (by omega) (by change 1 * (256 - m) ≤ _; omega))
      have HY := hide (fun W (hE : Ext wr W) => hY k W (hJ _ _ W (unhide HJ).1 hE) hlt)
      have hcv : ∀ w', Ext wr w' → (convert 29 9 (.slice (some ⟨G, k * 256, none⟩) m cc)).run Tryd.prog w' = .ok (.string (strOf pt)) w' := fun w' hE => run_str_of Tryd.underlying29 Tryd.underlying5 Tryd.underlying9 ((unhide HR).ext hE)
      refine (wpIn_wide (n := 2)).1 ?_
      refine wpIn_region_any (by kernel_rfl) ?_
      change wpAnyIn _ _ _ _ _ _ _ _ _ (World.drew _)
      (refine wpAnyIn_take (i := 0) (v := ?_) rfl rfl (by kernel_rfl) (by kernel_rfl) (by kernel_rfl) (fun _ _ _ h => h) ⟨Or.inl ⟨by rfl, ?_⟩, fun _ => rfl⟩ ?_; rotate_left; focus ((intro w; go_simp); try with_reducible rfl))
      (refine wpAnyIn_take (i := 1) (v := ?_) rfl rfl (by kernel_rfl) (by kernel_rfl) (by kernel_rfl) (fun _ _ _ h => h) ⟨Or.inl ⟨by rfl, ?_⟩, fun _ => rfl⟩ ?_; rotate_left; focus ((intro w; go_simp); try with_reducible rfl))
      (refine wpAnyIn_take (i := 2) (v := ?_) rfl rfl (by kernel_rfl) (by kernel_rfl) (by kernel_rfl) (fun _ _ _ h => h) ⟨Or.inl ⟨by rfl, ?_⟩, fun _ => rfl⟩ ?_; rotate_left; focus ((intro w; go_simp); try with_reducible rfl))
      (refine wpAnyIn_take (i := 4) (v := ?_) rfl rfl (by kernel_rfl) (by kernel_rfl) (by kernel_rfl) (fun _ _ _ h => h) ⟨Or.inl ⟨by rfl, ?_⟩, fun _ => rfl⟩ ?_; rotate_left; focus ((intro w; go_simp); try with_reducible rfl))
      (refine wpAnyIn_take (i := 5) (v := ?_) rfl rfl (by kernel_rfl) (by kernel_rfl) (by kernel_rfl) (fun _ _ _ h => h) ⟨Or.inl ⟨by rfl, ?_⟩, fun _ => rfl⟩ ?_; rotate_left; focus ((intro w; go_simp); try with_reducible rfl))
      (refine wpAnyIn_take (i := 6) (v := ?_) rfl rfl (by kernel_rfl) (by kernel_rfl) (by kernel_rfl) (fun _ _ _ h => h) ⟨Or.inl ⟨by rfl, ?_⟩, fun _ => rfl⟩ ?_; rotate_left; focus ((intro w; go_simp); try with_reducible rfl))
      refine wpAnyIn_ready (rs := [3, 7]) (by kernel_rfl) (by simp) (AllReadyIn.cons rfl (fun K hK => ?_) (AllReadyIn.cons rfl (fun K hK => ?_) AllReadyIn.nil))
      · go_simp
        rw [hcv _ ((Ext.refl _).drew)]
        go_simp
        refine hK _ _ ?_
        clear hK K
        refine wpAnyIn_ready (rs := [7]) (by kernel_rfl) (by simp) (AllReadyIn.cons rfl (fun K hK => ?_) AllReadyIn.nil)
        go_simp
        refine ⟨trivial, (callsIn_wide.2 (unhide HREP _)).mono ?_⟩
        rintro e w1 ⟨rfl, hB1⟩
        have H1 := hide (((Ext.refl wr).drew).trans (Ext.of_below hB1))
        clear hB1
        refine hK _ _ ?_
        clear hK K
        refine wpAnyIn_take (i := 8) (v := .string (strOf pt ++ (⟨(Lib.repeatL [0] (256 - m)).toArray⟩ : ByteArray))) rfl rfl (by kernel_rfl) (by kernel_rfl) (by kernel_rfl) (fun _ _ _ h => h) ⟨Or.inl ⟨by rfl, fun w => ?_⟩, fun _ => rfl⟩ ?_
        · go_simp
        rw [unhide HSS]
        refine wpAnyIn_ready (rs := [9]) (by kernel_rfl) (by simp) (AllReadyIn.cons rfl (fun K hK => ?_) AllReadyIn.nil)
        obtain ⟨fn, tmps, assign, body, hy, hR⟩ := unhide HY w1 (unhide H1)
        go_simp
        clear hy
        refine hR.mono ?_
        rintro e W3 (⟨rfl, hJ3, hk3⟩ | ⟨ch, rfl, hpn⟩)
        · have HJ4 := hide (show J (k + 1) W3 ∧ W3.cell? ⟨B, 0, none⟩ = some (.slice (some ⟨G, 0, none⟩) b.length c) ∧ W3.rangeAt G 0 (b.map u8v) from
            ⟨hJ3, kps_cell hk3 (unhide HSZ).2.2.1 (unhide HSZ).1 (Ext.cellv (unhide H1) (unhide HJ).2.1), fun j v hj => kps_cell hk3 (unhide HSZ).2.2.2 (unhide HSZ).2.1 (Ext.cellv (unhide H1) ((unhide HJ).2.2 j v hj))⟩)
          clear hJ3 hk3
          refine hK _ _ ?_
          clear hK K
          (refine wpAnyIn_take (i := 10) (v := ?_) rfl rfl (by kernel_rfl) (by kernel_rfl) (by kernel_rfl) (fun _ _ _ h => h) ⟨Or.inl ⟨by rfl, ?_⟩, fun _ => rfl⟩ ?_; rotate_left; focus ((intro w; go_simp); try with_reducible rfl))
          refine wpAnyIn_done (by kernel_rfl) ?_ _
          go_wp2
          go_roundw
          case rel => exact ⟨k + 1, by omega, by go_num, HJ4⟩
          case measure => simp [intOf]; omega
        · exact ⟨rfl, .inr ⟨ch, rfl, hpn⟩⟩
      · go_simp
        refine ⟨trivial, (callsIn_wide.2 (unhide HREP _)).mono ?_⟩
        rintro e w1 ⟨rfl, hB1⟩
        have H1 := hide (((Ext.refl wr).drew).trans (Ext.of_below hB1))
        clear hB1
        refine hK _ _ ?_
        clear hK K
        refine wpAnyIn_ready (rs := [3]) (by kernel_rfl) (by simp) (AllReadyIn.cons rfl (fun K hK => ?_) AllReadyIn.nil)
        go_simp
        rw [hcv _ (unhide H1)]
        go_simp
        refine hK _ _ ?_
        clear hK K
        refine wpAnyIn_take (i := 8) (v := .string (strOf pt ++ (⟨(Lib.repeatL [0] (256 - m)).toArray⟩ : ByteArray))) rfl rfl (by kernel_rfl) (by kernel_rfl) (by kernel_rfl) (fun _ _ _ h => h) ⟨Or.inl ⟨by rfl, fun w => ?_⟩, fun _ => rfl⟩ ?_
        · go_simp
        rw [unhide HSS]
        refine wpAnyIn_ready (rs := [9]) (by kernel_rfl) (by simp) (AllReadyIn.cons rfl (fun K hK => ?_) AllReadyIn.nil)
        obtain ⟨fn, tmps, assign, body, hy, hR⟩ := unhide HY w1 (unhide H1)
        go_simp
        clear hy
        refine hR.mono ?_
        rintro e W3 (⟨rfl, hJ3, hk3⟩ | ⟨ch, rfl, hpn⟩)
        · have HJ4 := hide (show J (k + 1) W3 ∧ W3.cell? ⟨B, 0, none⟩ = some (.slice (some ⟨G, 0, none⟩) b.length c) ∧ W3.rangeAt G 0 (b.map u8v) from
            ⟨hJ3, kps_cell hk3 (unhide HSZ).2.2.1 (unhide HSZ).1 (Ext.cellv (unhide H1) (unhide HJ).2.1), fun j v hj => kps_cell hk3 (unhide HSZ).2.2.2 (unhide HSZ).2.1 (Ext.cellv (unhide H1) ((unhide HJ).2.2 j v hj))⟩)
          clear hJ3 hk3
          refine hK _ _ ?_
          clear hK K
          (refine wpAnyIn_take (i := 10) (v := ?_) rfl rfl (by kernel_rfl) (by kernel_rfl) (by kernel_rfl) (fun _ _ _ h => h) ⟨Or.inl ⟨by rfl, ?_⟩, fun _ => rfl⟩ ?_; rotate_left; focus ((intro w; go_simp); try with_reducible rfl))
          refine wpAnyIn_done (by kernel_rfl) ?_ _
          go_wp2
          go_roundw
          case rel => exact ⟨k + 1, by omega, by go_num, HJ4⟩
          case measure => simp [intOf]; omega
        · exact ⟨rfl, .inr ⟨ch, rfl, hpn⟩⟩
    · have hI : ¬ (k : Int) * 256 < (b.length : Int) := by have := nsec_ge hlt; omega
      obtain rfl : k = nsec b := by omega
      go_wp2
      go_end0
      exact .inl ⟨⟨_, rfl⟩, (unhide HJ).1⟩
end Go.Proofs.YtoefmncdloffaaaDoor


namespace Go.Proofs.YtoefmncdloffaaaDoor.Pv
open Go.RowKit
theorem funX_head {P : Program} {I : World → Prop} {fn : Func} {os : List Ob} {O : List Acc → Option Res} {dev : Option (List Acc × List Acc)} {stp : List Acc → Prop} {args : List PV} (hnb : Nat.ble args.length fn.ntmps = true)
    (hos : (os.all fun o => Nat.blt dx o.x) = true) {w : World} {ok0 : Nat → Prop} {vs : List Value} {bl : Nat → Nat} {D : Dv} {X0 : Nat → Prop}
    (hM : ∀ w', Chg (SX os bl D) w w' → I w') (hold : ∀ b, SX os bl D b → b < w.heap.size ∧ ¬ ok0 b) (hst : DvStep P D) (hpW : ∀ l X Y w w' chain, D.pan l X w chain → Chg X w w' → (∀ b, Y b → X b) → D.pan l Y w' chain) (hO : D.O = O)
    (hdv : ∀ p, dev = some p → D.inv p.1 X0 w) (hnd : dev = none → (∀ b, ¬ D.S b) ∧ ∀ l X w, ¬ D.inv l X w)
    (hob : ∀ o ∈ os, X0 (bl o.x) ∧ ∃ cs, Blk w (bl o.x) o.t cs ∧ RL { w, ok := ok0, env := fun _ => none } o.l cs.toList) (hinj : ∀ o ∈ os, ∀ o' ∈ os, bl o.x = bl o'.x → o.x = o'.x)
    (hv : Vals { w, ok := ok0, env := envX os bl dev D.hd } args vs) : AmbOk P I ⟨w, SX os bl D, ok0, fn.ntmps, extX os bl dev D.hd, D, stp, X0⟩ ∧ Gam ⟨w, SX os bl D, ok0, fn.ntmps, extX os bl dev D.hd, D, stp, X0⟩ ⟨slots 0 args, headO os O dev stp⟩ { tmps := vs.toArray ++ Array.replicate (fn.ntmps - vs.toArray.size) undef, defers := [] } w := by
  have hlen := hv.length
  have hn := Nat.le_of_ble_eq_true hnb
  have hgt : ∀ o ∈ os, dx < o.x := fun o ho => by
    have := List.all_eq_true.1 hos o ho
    have h3 : dx + 1 ≤ o.x := by simpa [Nat.blt] using this
    exact h3
  have hdxo : hasOb os dx = false := by
    cases h : hasOb os dx with
    | false => rfl
    | true =>
      obtain ⟨o, h1, h2⟩ := hasOb_mem h
      have := hgt o h1; omega
  subst hO
  let A : Amb := ⟨w, SX os bl D, ok0, fn.ntmps, extX os bl dev D.hd, D, stp, X0⟩
  have hext : ∀ x hd, extX os bl dev D.hd x = some hd → (hasOb os x = true ∧ hd = boxAt (bl x)) ∨ (x = dx ∧ hd = D.hd ∧ dev.isSome = true) := by
    intro x hd h
    unfold extX at h
    split at h
    · rename_i h1; cases h; exact .inl ⟨h1, rfl⟩
    · rename_i h1 h2 h3; cases h; exact .inr ⟨beqT h3, rfl, rfl⟩
    · cases h
  have hA : AmbOk P I A := ⟨hM, fun b h => .inl h, hold, hst, fun l X w' hi => by
    cases hd : dev with
    | none => exact ((hnd hd).2 l X w' hi).elim
    | some p => show extX os bl dev D.hd dx = _; unfold extX; rw [hdxo, hd]; rfl, hpW⟩
  have hown : ∀ b, ownB A (envX os bl dev D.hd) b → X0 b := by
    rintro b (h | ⟨x, ver, hd, h1, h2⟩)
    · exact h
    · unfold envX at h1
      cases hx : extX os bl dev D.hd x with
      | none => rw [hx] at h1; cases h1
      | some h =>
        rw [hx] at h1
        cases h1
        rcases hext x _ hx with ⟨h3, rfl⟩ | ⟨_, rfl, _⟩
        · obtain ⟨o, h4, rfl⟩ := hasOb_mem h3
          rw [hblk_boxAt h2]
          exact (hob o h4).1
        · rw [D.noBlk] at h2; cases h2
  have hhead : ∀ x p, find (headO os D.O dev stp) x = some p → (∃ o ∈ os, o.x = x ∧ p = (none, 0, .box o.t o.l)) ∨ (x = dx ∧ ∃ q, dev = some q ∧ p = (none, 0, .dev D.O stp q.1)) := by
    intro x p h
    unfold headO at h
    cases hd : dev with
    | none => rw [hd] at h; exact .inl (find_obs h)
    | some q =>
      rw [hd] at h
      by_cases hx : dx = x
      · subst hx; rw [find_cons_eq] at h; cases h; exact .inr ⟨rfl, q, rfl, rfl⟩
      · rw [find_cons_ne _ _ hx] at h; exact .inl (find_obs h)
  have henv : ∀ o ∈ os, envX os bl dev D.hd o.x = some (0, boxAt (bl o.x)) := fun o ho => by
    unfold envX extX
    rw [mem_hasOb ho]
    rfl
  have hle0 : ∀ {pv : PV} {v : Value}, RV { w, ok := ok0, env := envX os bl dev D.hd } pv v → RV (ctxOf A w (envX os bl dev D.hd)) pv v := fun h => h.le ⟨Nat.le_refl _, fun b hlt ho => ⟨⟨.inl ho, fun x ver hd hx hb => by
      unfold envX at hx
      cases hx2 : extX os bl dev D.hd x with
      | none => rw [hx2] at hx; cases hx
      | some h =>
        rw [hx2] at hx
        cases hx
        rcases hext x _ hx2 with ⟨h3, rfl⟩ | ⟨_, rfl, _⟩
        · obtain ⟨o, h4, rfl⟩ := hasOb_mem h3
          have := hblk_boxAt hb
          subst this
          exact (hold _ (.inr ⟨o, h4, rfl⟩)).2 ho
        · rw [D.noBlk] at hb; cases hb⟩, rfl⟩, fun x ver hd h => ⟨ver, hd, h, Nat.le_refl _, fun _ => rfl⟩⟩
  have hg : Gam A ⟨slots 0 args, headO os D.O dev stp⟩ { tmps := vs.toArray ++ Array.replicate (fn.ntmps - vs.toArray.size) undef, defers := [] } w := by
    refine ⟨envX os bl dev D.hd, { chg := Chg.refl _ _, size := ?_, dom := fun x hx => ?_, objs := fun x g ver o h => ?_, live := fun x ver hd b h hb => ?_, inj := fun x y v1 h1 v2 h2 b hx hy hb1 hb2 => ?_, tmps := fun t g pv h hgt => ?_, defers := rfl, und := fun t pv h => (by obtain ⟨k, _, h2⟩ := find_slotsG h; cases h2), exts := fun x hd hx => ?_, dev := fun g ver O stp' l h _ => ?_ }⟩
    · simp [A]; omega
    · unfold envX extX
      have h1 : hasOb os x = false := by
        unfold headO at hx
        cases hd : dev with
        | none => rw [hd] at hx; exact find_obs_none hx
        | some q =>
          rw [hd] at hx
          by_cases hdx : dx = x
          · subst hdx; exact hdxo
          · rw [find_cons_ne _ _ hdx] at hx; exact find_obs_none hx
      rw [h1]
      cases hd : dev with
      | none => rfl
      | some q =>
        have : Nat.beq x dx = false := by
          cases hb : Nat.beq x dx with
          | false => rfl
          | true =>
            obtain rfl := beqT hb
            unfold headO at hx
            rw [hd, find_cons_eq] at hx
            cases hx
        rw [this]
        rfl
    · rcases hhead x _ h with ⟨ob, h1, rfl, h2⟩ | ⟨rfl, q, h1, h2⟩
      · cases h2
        obtain ⟨_, cs, h3, h4⟩ := hob ob h1
        refine ⟨boxAt (bl ob.x), henv ob h1, fun _ => ⟨_, cs, rfl, h3, ?_⟩⟩
        refine h4.le ⟨Nat.le_refl _, fun b hlt hok => ⟨⟨.inl hok, fun x ver hd hx hb => ?_⟩, rfl⟩, fun _ _ _ h => by cases h⟩
        have hx' : envX os bl dev D.hd x = some (ver, hd) := hx
        unfold envX at hx'
        cases hx2 : extX os bl dev D.hd x with
        | none => rw [hx2] at hx'; cases hx'
        | some h =>
          rw [hx2] at hx'
          cases hx'
          rcases hext x _ hx2 with ⟨h5, rfl⟩ | ⟨_, rfl, _⟩
          · obtain ⟨o, h6, rfl⟩ := hasOb_mem h5
            have := hblk_boxAt hb
            subst this
            exact (hold _ (.inr ⟨o, h6, rfl⟩)).2 hok
          · rw [D.noBlk] at hb; cases hb
      · cases h2
        refine ⟨D.hd, ?_, fun _ => trivial⟩
        unfold envX extX
        rw [hdxo, h1]
        rfl
    · unfold envX at h
      cases hx2 : extX os bl dev D.hd x with
      | none => rw [hx2] at h; cases h
      | some h' =>
        rw [hx2] at h
        cases h
        rcases hext x _ hx2 with ⟨h3, rfl⟩ | ⟨_, rfl, _⟩
        · obtain ⟨o, h4, rfl⟩ := hasOb_mem h3
          have := hblk_boxAt hb
          subst this
          exact ⟨(hold _ (.inr ⟨o, h4, rfl⟩)).1, .inr (.inr ⟨o, h4, rfl⟩)⟩
        · rw [D.noBlk] at hb; cases hb
    · unfold envX at hx hy
      cases hx2 : extX os bl dev D.hd x with
      | none => rw [hx2] at hx; cases hx
      | some hx3 =>
        cases hy2 : extX os bl dev D.hd y with
        | none => rw [hy2] at hy; cases hy
        | some hy3 =>
          rw [hx2] at hx
          rw [hy2] at hy
          cases hx
          cases hy
          rcases hext x _ hx2 with ⟨h3, rfl⟩ | ⟨_, rfl, _⟩
          · rcases hext y _ hy2 with ⟨h4, rfl⟩ | ⟨_, rfl, _⟩
            · obtain ⟨o, h5, rfl⟩ := hasOb_mem h3
              obtain ⟨o', h6, rfl⟩ := hasOb_mem h4
              refine hinj o h5 o' h6 ?_
              rw [← hblk_boxAt hb1, ← hblk_boxAt hb2]
            · rw [D.noBlk] at hb2; cases hb2
          · rw [D.noBlk] at hb1; cases hb1
    · obtain ⟨k, h1, h2⟩ := find_slots h
      obtain ⟨v, h3, h4⟩ := hv.at h2
      rw [Nat.zero_add] at h1
      subst h1
      have hk : t < vs.length := (List.getElem?_eq_some_iff.1 h3).1
      refine ⟨v, ?_, hle0 h4⟩
      rw [Array.getElem?_append_left (by simpa using hk)]
      simpa using h3
    · refine ⟨?_, 0, hd, ?_, Nat.le_refl _, fun _ => rfl⟩
      · rcases hext x hd hx with ⟨h3, _⟩ | ⟨rfl, _, _⟩
        · obtain ⟨o, h4, rfl⟩ := hasOb_mem h3
          exact Nat.ble_eq_true_of_le (Nat.le_of_lt (hgt o h4))
        · exact Nat.ble_eq_true_of_le (Nat.le_refl _)
      · show envX os bl dev D.hd x = some (0, hd)
        unfold envX
        have : extX os bl dev D.hd x = some hd := hx
        rw [this]
        rfl
    · rcases hhead dx _ h with ⟨ob, h1, h2, _⟩ | ⟨_, q, h1, h2⟩
      · have := hgt ob h1; omega
      · cases h2
        exact ⟨rfl, rfl, D.grow _ _ _ _ _ (hdv q h1) (Chg.refl _ _) (fun b hb => .inl (hown b hb))⟩
  exact ⟨hA, hg⟩
def RX (A : Amb) (new : Bool) (O : List Acc → Option Res) (H : List Acc) (stp : List Acc → Prop) (res : PV) (e : Ending) (w' : World) : Prop :=
  Chg A.dv.S A.w0 w' ∧ ((∃ val, e = .returned val ∧ RV { w := w', ok := okRes A.w0 A.ok0 new, env := fun _ => none } res val ∧ A.dv.inv H A.X0 w') ∨ ∃ chain l, e = .panicked chain ∧ stp l ∧ O l = none ∧ A.dv.pan l A.X0 w' chain)
theorem funX_ofV {P : Program} {I : World → Prop} {f : Nat} {fn : Func} {c : Code} {new : Bool} {O : List Acc → Option Res} {l0 H : List Acc} {stp : List Acc → Prop} {args : List PV} {res : PV} (hf : P.funcs[f]? = some fn) (hb : fn.body = some c) (hnb : Nat.ble args.length fn.ntmps = true)
    (hT : ∀ A : Amb, A.nt = fn.ntmps → AmbOk P I A → A.dv.O = O → A.stp = stp → (∀ b, A.S b ↔ A.dv.S b) → ∀ a, Gam A ⟨slots 0 args, [(dx, none, 0, .dev O stp l0)]⟩ a A.w0 → wpV P f c (bodyPostM Fence.wide 3 P fn (RX A new O H stp res)) a A.w0) : FunX P I f new [] O (some (l0, H)) stp args res := by
  intro w ok0 vs bl D X0 hM hold hst hpW hO hdv hnd hob hinj hv
  obtain ⟨hA, hg⟩ := funX_head (fn := fn) (stp := stp) hnb rfl hM hold hst hpW hO hdv hnd hob hinj hv
  have hS : ∀ b, SX [] bl D b ↔ D.S b := fun b => ⟨fun h => h.elim id (fun ⟨o, ho, _⟩ => by cases ho), .inl⟩
  refine (callsIn_wide (n := 3)).1 ((calls_of_wpV hf hb (hT _ rfl hA hO rfl hS _ hg)).mono ?_)
  rintro e w' ⟨h1, h2⟩
  refine ⟨h1.mono fun b _ h => .inl h, ?_⟩
  rcases h2 with ⟨val, h3, h4, h5⟩ | h3
  · exact .inl ⟨val, h3, h4, (fun o ho => by cases ho), (fun p hp => by cases hp; exact h5)⟩
  · exact .inr h3
def TriV (P : Program) (f0 : FuncId) (A : Amb) (s : St) (c : Code) (Q : Exit → Act → World → Prop) : Prop := ∀ a w, Gam A s a w → PanQ A Q → wpV P f0 c Q a w
section
variable {P : Program} {f0 : FuncId} {A : Amb} {s : St} {Q : Exit → Act → World → Prop}
def NxtV (P : Program) (f0 : FuncId) (A : Amb) (c : Code) (Q : Exit → Act → World → Prop) : Act → World → Prop := fun a w => PanQ A Q → wpV P f0 c Q a w
theorem triV_seq {x y : Code} (h : Tri P A s x (Exit.then (NxtV P f0 A y Q) Q)) : TriV P f0 A s (.seq x y) Q := fun a w hg hPQ =>
  wpV_seq (wpV_mono (wpV_of_wp (h a w hg hPQ)) (fun e a' w' he => by
    cases e <;> first | exact he | exact he hPQ))
theorem triV_elim {c : Code} {a : Act} {w : World} (h : TriV P f0 A s c Q) (hg : Gam A s a w) (hp : PanQ A Q) : wpV P f0 c Q a w := h a w hg hp
theorem triV_conv {s' : St} {c : Code} (h : ∀ a w, Gam A s a w → Gam A s' a w) (hT : TriV P f0 A s' c Q) : TriV P f0 A s c Q := fun a w hg hPQ => hT a w (h a w hg) hPQ
end
theorem triV_reg {P : Program} {I : World → Prop} {G : Specs} {f0 : FuncId} {A : Amb} {s s' : St} {Q : Exit → Act → World → Prop} (M : Mach P I G) (hI : AmbOk P I A) {nt : Nat} (hnt : A.nt = nt) {rid : Nat} {ops : Array Oper} {draw : Bool} {outs : List (Option Nat × Out)} {y : Code} (h : runOpsX (mopOf P G rid ops.toList) 0 ops.toList s = some (outs, s')) (hcl : (clashDraw draw ops.toList outs && dstsB nt ops.toList) = true) (hc : All ((outs.map fun q => q.2.conds).flatten)) (hQ : TriV P f0 A s' y Q) : TriV P f0 A s (.seq (.region rid ops draw) y) Q :=
  triV_seq (tri_region M hI hnt h hcl hc (fun a w hg => hQ a w hg))
theorem panQ_bodyM (P : Program) (A : Amb) (fn : Func) (O : List Acc → Option Res) (H : List Acc) (stp : List Acc → Prop) (new : Bool) (res : PV) (hO : A.dv.O = O) (hs : A.stp = stp) (hS : ∀ b, A.S b ↔ A.dv.S b) : PanQ A (bodyPostM Fence.wide 3 P fn (RX A new O H stp res)) := by
  rintro chain a w hd ⟨l, h1, h2, h3, h4⟩
  show LeavesInM Fence.wide 3 P fn a.tmps _ a.defers (.panicking chain) w
  rw [hd]
  exact ⟨h4.mono fun b _ h => (hS b).1 h, .inr ⟨chain, l, rfl, by rw [← hs]; exact h1, by rw [← hO]; exact h2, h3⟩⟩
theorem ret_bodyM {P : Program} {A : Amb} {fn : Func} {O : List Acc → Option Res} {H : List Acc} {stp : List Acc → Prop} {new : Bool} {res : PV} {s : St} (hS : ∀ b, A.S b ↔ A.dv.S b) (h : RetTo P fn new res s) (hd : find s.o dx = some (none, 0, .dev O stp H)) {a : Act} {w : World} (hg : Gam A s a w) : bodyPostM Fence.wide 3 P fn (RX A new O H stp res) .ret a w := by
  obtain ⟨v, h2, h3⟩ := h
  obtain ⟨env, hE⟩ := hg
  obtain ⟨v', val, h5, h6, h7, _⟩ := retM_ok hE h2
  subst h7
  obtain ⟨_, _, hi⟩ := hE.dev none 0 _ _ _ hd trivial
  have hOS : OwnS A s env := by
    intro x g ver e n len f0 hd b hfx hex hbx hs
    exact A.dv.notS _ _ _ _ hi (.inr ⟨x, ver, hd, hex, hbx⟩) ((hS b).1 hs)
  have hres := exV_ok hE hOS h3 h6
  show LeavesInM Fence.wide 3 P fn a.tmps _ a.defers .returning w
  rw [hE.defers]
  exact ⟨val, h5, hE.chg.mono fun b _ h => (hS b).1 h, .inl ⟨val, rfl, hres, A.dv.grow _ _ _ _ _ hi (Chg.refl _ _) (fun b hb => .inl (.inl hb))⟩⟩
theorem Gam.box_at {A : Amb} {s : St} {a : Act} {w : World} {env : Env} (h : GamE A s a w env) {t x : Nat} {ty : TypeId} {l : List PC} (ht : find s.t t = some (none, pv1 (.pt x 0 0))) (ho : find s.o x = some (none, 0, .box ty l)) :
    ∃ g cs, a.tmps[t]? = some (.pointer (some ⟨g, 0, none⟩)) ∧ env x = some (0, boxAt g) ∧ Blk w g ty cs ∧ RL (ctxOf A w env) l cs.toList := by
  obtain ⟨v, h1, h2⟩ := h.tmps t none _ ht trivial
  obtain ⟨hd, h3, h4⟩ := h.objs x none 0 _ ho
  obtain ⟨g, cs, rfl, h5, h6⟩ := h4 trivial
  obtain ⟨g0, e1, rfl⟩ := RV.pt_inv h2 h3
  cases e1
  exact ⟨_, cs, h1, h3, h5, h6⟩
end Go.Proofs.YtoefmncdloffaaaDoor.Pv


namespace Go.Proofs.YtoefmncdloffaaaDoor.Pv
open Go.RowKit
def wAcc (F : Int) (b : List UInt8) (i : Nat) : Acc := ⟨4, 0, F + (i : Int), strOf (secS b i)⟩
def hist (F : Int) (b : List UInt8) (lz : List Acc) (k : Nat) : List Acc := lz ++ (List.range (k - 1)).map fun j => wAcc F b (1 + j)
theorem hist_one (F : Int) (b : List UInt8) (lz : List Acc) : hist F b lz 1 = lz := List.append_nil _
theorem hist_zero (F : Int) (b : List UInt8) (lz : List Acc) : hist F b lz 0 = lz := List.append_nil _
theorem hist_next (F : Int) (b : List UInt8) (lz : List Acc) (k : Nat) (hk : 0 < k) : hist F b lz (k + 1) = hist F b lz k ++ [wAcc F b k] := by
  obtain ⟨m, rfl⟩ : ∃ m, k = m + 1 := ⟨k - 1, by omega⟩
  unfold hist
  rw [show m + 1 + 1 - 1 = m + 1 from rfl, show m + 1 - 1 = m from rfl, List.range_succ, List.map_append, List.append_assoc, Nat.add_comm m 1]
  rfl
theorem hist_le (F : Int) (b : List UInt8) (lz : List Acc) {k m : Nat} (h : k ≤ m) : hist F b lz k <+: hist F b lz m := by
  induction m with
  | zero => obtain rfl : k = 0 := by omega
            exact List.prefix_refl _
  | succ m ih =>
    rcases Nat.lt_or_ge m k with h1 | h1
    · obtain rfl : k = m + 1 := by omega
      exact List.prefix_refl _
    · refine (ih h1).trans ?_
      rcases Nat.eq_zero_or_pos m with rfl | hm
      · rw [hist_zero, hist_one]; exact List.prefix_refl _
      · rw [hist_next F b lz m hm]; exact List.prefix_append _ _
theorem go_wrs (O : List Acc → Option Res) (F : Int) (b : List UInt8) : ∀ (n i : Nat) (l : List Acc), (go O (Prg.wrs F b n i) l).2 = l ++ (List.range n).map fun j => wAcc F b (i + j)
  | 0, i, l => (List.append_nil _).symm
  | n + 1, i, l => by
    rw [Prg.wrs, go_bind, go_wrs O F b n (i + 1), List.range_succ_eq_map, List.map_cons, List.map_map]
    show (l ++ [wAcc F b i]) ++ _ = _
    rw [List.append_assoc]
    congr 1
    rw [Nat.add_zero]
    show wAcc F b i :: _ = _
    congr 1
    refine List.map_congr_left fun j _ => ?_
    show wAcc F b (i + 1 + j) = wAcc F b (i + (j + 1))
    congr 1
    omega
theorem cur_all (rec : Int) : Prg.All (fun p : (Int × List UInt8) × Nat => (0 ≤ p.1.1 ∧ p.1.1 ≤ 1099511627776) ∧ (p.2 = 0 ∨ p.2 = 1)) (Prg.cur rec) := by
  refine (Prg.All.triv _).bind fun a _ => (Prg.All.triv _).bind fun b _ => ?_
  show _ ∧ _
  unfold curS
  split
  · exact ⟨decS_range _ _, .inr rfl⟩
  · exact ⟨decS_range _ _, .inl rfl⟩
theorem wr_call {A : Amb} (hI : AmbOk Tryd.prog ShaMem A) {l : List Acc} {X : Nat → Prop} {w : World} (hi : A.dv.inv l X w) (hS : ∀ b, A.S b ↔ A.dv.S b) (hc : Chg A.dv.S A.w0 w) (k : Int) (b : ByteArray) :
    Calls Tryd.prog 122 #[A.dv.hd, .int .i64 k, .string b] w fun e w' => Chg A.dv.S w w' ∧
      ((∃ v, e = .returned v ∧ A.dv.inv (l ++ [⟨4, 0, k, b⟩]) X w') ∨ ∃ chain l', e = .panicked chain ∧ (l <+: l' ∧ l' <+: l ++ [⟨4, 0, k, b⟩]) ∧ A.dv.O l' = none ∧ A.dv.pan l' X w' chain) := by
  have hSX : ∀ b, SX [] (fun _ => 0) A.dv b → A.dv.S b := by
    rintro b (h | ⟨o, ho, _⟩)
    · exact h
    · cases ho
  refine ((wr_fun (I := ShaMem) k b A.dv.O l) w (fun _ => False) [A.dv.hd, .int .i64 k, .string b] (fun _ => 0) A.dv X
    (fun w' h => hI.mem w' ((hc.mono fun b _ h => (hS b).2 h).trans (h.mono fun b _ h => (hS b).2 (hSX b h))))
    (fun b hb => ⟨Nat.lt_of_lt_of_le (hI.old b ((hS b).2 (hSX b hb))).1 hc.size, fun h => h⟩) hI.step hI.panW rfl (fun p hp => by cases hp; exact hi) (fun h => by cases h) (fun o ho => by cases ho) (fun o ho => by cases ho)
    ⟨.w (.one (.dv A.dv.one ⟨0, A.dv.hd, rfl, Nat.le_refl _, fun _ => rfl⟩)), .w (.one (.lit rfl)), .w (.one (.lit rfl)), trivial⟩).mono ?_
  rintro e w' ⟨h1, h2⟩
  refine ⟨h1.mono fun b _ h => hSX b h, ?_⟩
  rcases h2 with ⟨v, rfl, _, _, h3⟩ | ⟨chain, l', rfl, h3, h4, h5⟩
  · exact .inl ⟨v, rfl, h3 _ rfl⟩
  · exact .inr ⟨chain, l', rfl, h3, h4, h5⟩
structure SvJ (A : Amb) (X : Nat → Prop) (n0 g3 g6 g10 g11 : Nat) (F : Int) (b : List UInt8) (lz : List Acc) (k : Nat) (W : World) : Prop where
  chg : Chg A.dv.S A.w0 W
  inv : A.dv.inv (hist F b lz k) X W
  b3 : Blk W g3 121 #[A.dv.hd]
  b6 : Blk W g6 61 #[.string noBytes, .int .i64 0, .int .i64 0]
  b10 : Blk W g10 3 #[.int .i64 F]
  b11 : Blk W g11 9 #[.string (if k = 0 then noBytes else strOf (secS b 0))]
  sz : n0 ≤ W.heap.size
section
variable {A : Amb} {X : Nat → Prop} {n0 g3 g6 g10 g11 : Nat} {F : Int} {b : List UInt8} {lz : List Acc} {k : Nat} {W W' : World}
theorem SvJ.keep (h : SvJ A X n0 g3 g6 g10 g11 F b lz k W) {n1 : Nat} (h0 : A.w0.heap.size ≤ n1) (h1 : ∀ i, Two n1 i → X i) (hc : Chg (Two n1) W W') (hk : KeepB W W') : SvJ A X n0 g3 g6 g10 g11 F b lz k W' where
  chg := h.chg.trans' hc (fun _ _ h => h) (fun i hi hn => by rcases hn with h | h <;> omega)
  inv := A.dv.grow _ _ _ _ _ h.inv (hc.mono fun i _ hn => h1 i hn) (fun i hi => .inl hi)
  b3 := hk.blk h.b3
  b6 := hk.blk h.b6
  b10 := hk.blk h.b10
  b11 := hk.blk h.b11
  sz := Nat.le_trans h.sz hc.size
theorem SvJ.notS (h : SvJ A X n0 g3 g6 g10 g11 F b lz k W) {i : Nat} (hi : X i) : ¬ A.dv.S i := A.dv.notS _ _ _ _ h.inv hi
theorem SvJ.wrote (h : SvJ A X n0 g3 g6 g10 g11 F b lz k W) (h3 : X g3) (h6 : X g6) (h10 : X g10) (h11 : X g11) (hk : 0 < k) (hc : Chg A.dv.S W W') (hi : A.dv.inv (hist F b lz k ++ [wAcc F b k]) X W') : SvJ A X n0 g3 g6 g10 g11 F b lz (k + 1) W' where
  chg := h.chg.trans hc
  inv := by rw [hist_next _ _ _ _ hk]; exact hi
  b3 := h.b3.chg hc (h.notS h3)
  b6 := h.b6.chg hc (h.notS h6)
  b10 := h.b10.chg hc (h.notS h10)
  b11 := by
    have := h.b11.chg hc (h.notS h11)
    rw [if_neg (by omega)] at this ⊢
    exact this
  sz := Nat.le_trans h.sz hc.size
end
end Go.Proofs.YtoefmncdloffaaaDoor.Pv


namespace Go.Proofs.YtoefmncdloffaaaDoor.Pv
open Go.RowKit
theorem act65 (a : Act) (h : a.tmps.size = 65) (hd : a.defers = []) : ∃ u0 u1 u2 u3 u4 u5 u6 u7 u8 u9 u10 u11 u12 u13 u14 u15 u16 u17 u18 u19 u20 u21 u22 u23 u24 u25 u26 u27 u28 u29 u30 u31 u32 u33 u34 u35 u36 u37 u38 u39 u40 u41 u42 u43 u44 u45 u46 u47 u48 u49 u50 u51 u52 u53 u54 u55 u56 u57 u58 u59 u60 u61 u62 u63 u64, a = { tmps := #[u0, u1, u2, u3, u4, u5, u6, u7, u8, u9, u10, u11, u12, u13, u14, u15, u16, u17, u18, u19, u20, u21, u22, u23, u24, u25, u26, u27, u28, u29, u30, u31, u32, u33, u34, u35, u36, u37, u38, u39, u40, u41, u42, u43, u44, u45, u46, u47, u48, u49, u50, u51, u52, u53, u54, u55, u56, u57, u58, u59, u60, u61, u62, u63, u64], defers := [] } := by
  obtain ⟨⟨L⟩, d⟩ := a
  obtain rfl : d = [] := hd
  have hL : L = (List.range 65).map fun i => L.getD i undef := by
    apply List.ext_getElem
    · simpa using h
    · intro i h1 h2
      rw [List.getElem_map, List.getElem_range, List.getD_eq_getElem?_getD, List.getElem?_eq_getElem h1]
      rfl
  exact ⟨L.getD 0 undef, L.getD 1 undef, L.getD 2 undef, L.getD 3 undef, L.getD 4 undef, L.getD 5 undef, L.getD 6 undef, L.getD 7 undef, L.getD 8 undef, L.getD 9 undef, L.getD 10 undef, L.getD 11 undef, L.getD 12 undef, L.getD 13 undef, L.getD 14 undef, L.getD 15 undef, L.getD 16 undef, L.getD 17 undef, L.getD 18 undef, L.getD 19 undef, L.getD 20 undef, L.getD 21 undef, L.getD 22 undef, L.getD 23 undef, L.getD 24 undef, L.getD 25 undef, L.getD 26 undef, L.getD 27 undef, L.getD 28 undef, L.getD 29 undef, L.getD 30 undef, L.getD 31 undef, L.getD 32 undef, L.getD 33 undef, L.getD 34 undef, L.getD 35 undef, L.getD 36 undef, L.getD 37 undef, L.getD 38 undef, L.getD 39 undef, L.getD 40 undef, L.getD 41 undef, L.getD 42 undef, L.getD 43 undef, L.getD 44 undef, L.getD 45 undef, L.getD 46 undef, L.getD 47 undef, L.getD 48 undef, L.getD 49 undef, L.getD 50 undef, L.getD 51 undef, L.getD 52 undef, L.getD 53 undef, L.getD 54 undef, L.getD 55 undef, L.getD 56 undef, L.getD 57 undef, L.getD 58 undef, L.getD 59 undef, L.getD 60 undef, L.getD 61 undef, L.getD 62 undef, L.getD 63 undef, L.getD 64 undef, congrArg (fun l => ({ tmps := l.toArray, defers := [] } : Act)) hL⟩
theorem rl_lits_inv {C : Ctx} : ∀ {vs xs : List Value}, RL C (vs.map PC.lit) xs → xs = vs
  | [], _, h => by cases h; rfl
  | v :: vs, _, h => by
    cases h with
    | cons h1 h2 =>
      rename_i xs ys
      have : xs = [v] := by cases h1; rfl
      rw [this, rl_lits_inv h2]
      rfl
theorem rl_lits_arr {C : Ctx} {vs : List Value} {cs : Array Value} (h : RL C (vs.map PC.lit) cs.toList) : cs = vs.toArray := by rw [← rl_lits_inv h]
theorem rl_dv {C : Ctx} {cs : Array Value} {v : Value} (h : RL C [.dv] cs.toList) (hv : ∀ ver hd, C.env dx = some (ver, hd) → 0 = ver ∧ hd = v) : cs = #[v] := by
  have h1 := h.single
  generalize hx : cs.toList = xs at h1
  cases h1 with
  | dv h2 h3 =>
    rename_i v'
    obtain ⟨ver, hd, he, h4, h5⟩ := h3
    obtain ⟨rfl, e⟩ := hv ver hd he
    have h6 : v' = v := (h5 rfl).trans e
    subst h6
    rw [← hx]
theorem lit_at {A : Amb} {s : St} {a : Act} {w : World} {env : Env} (h : GamE A s a w env) {t : Nat} {v : Value} (ht : find s.t t = some (none, lit1 v)) : a.tmps[t]? = some v := by
  obtain ⟨v', h1, h2⟩ := h.tmps t none _ ht trivial
  have h3 := h2.inv
  generalize hx : [v'] = xs at h3
  cases h3
  cases hx
  exact h1
theorem enc_call (rec seq : Int) (c : ByteArray) (h1 : i64P rec) (h2 : i64P seq) (hc : c.size ≤ 3000) (w : World) (hM : ShaMem w) : Calls Tryd.prog 124 #[.int .i64 rec, .int .i64 seq, .string c] w fun e w' =>
    ∃ G cap, e = .returned (.slice (some ⟨G, 0, none⟩) (encS rec seq c.data.toList).length cap) ∧ Ext w w' ∧ w.heap.size ≤ G ∧ G < w'.heap.size ∧ (encS rec seq c.data.toList).length ≤ cap ∧ cap ≤ maxLen ∧ w'.rangeAt G 0 ((encS rec seq c.data.toList).map u8v) := by
  have hpos : 0 < (encS rec seq c.data.toList).length := by rw [encS_length]; omega
  refine (encode_fun rec seq c h1 h2 hc w (fun _ => False) [.int .i64 rec, .int .i64 seq, .string c] hM ⟨.w (.one (.lit rfl)), .w (.one (.lit rfl)), .w (.one (.lit rfl)), trivial⟩).mono ?_
  rintro e w' ⟨val, xs, rfl, hE, ho, hx⟩
  generalize encS rec seq c.data.toList = b at *
  have hxs : xs = b.map u8v := by
    apply List.ext_getElem?
    intro i
    have hlen := ho.1
    rcases Nat.lt_or_ge i b.length with hi | hi
    · have h3 := hx { w := w, ok := fun _ => False, env := fun _ => none } i hi
      rw [Nat.mul_one] at h3
      have hd : (xs.drop i).take 1 = [xs[i]'(by omega)] := by
        rw [List.drop_eq_getElem_cons (by omega)]; rfl
      rw [hd] at h3
      unfold byF at h3
      have h4 := h3.single
      generalize hxi : xs[i]'(by omega) = x at h4
      cases h4 with
      | lit _ =>
        rw [List.getElem?_eq_getElem (by omega), hxi, List.getElem?_map, List.getElem?_eq_getElem hi, List.getD_eq_getElem?_getD, List.getElem?_eq_getElem hi]
        rfl
    · rw [List.getElem?_eq_none (by omega), List.getElem?_eq_none (by simpa using hi)]
  subst hxs
  have ho2 := ho
  rcases ho.2 with ⟨_, h0⟩ | ⟨g, cap, cur, rfl, hb, hg, hnc, hcm, hcs, htake⟩
  · omega
  · refine ⟨g, cap, rfl, hE, hb, lt_of_heap hg, hnc, hcm, fun j v hj => ?_⟩
    have := ho2.cells (g := g) rfl j v hj
    rw [add_lit] at this
    exact this
theorem sectors_any (v : Value) (hv : v.oneCell' = true) (w : World) : Calls Tryd.prog 123 #[v] w fun e w' => e = .returned (.func (.func 154) #[] #[.pointer (some ⟨w.heap.size, 0, none⟩)]) ∧
    w.alloc (.cells #[v] 29) = w' := by
  have hmf := mkfun
  go_enter Tryd.func123, Tryd.ntmps123
  go_wp2
  go_ret
  exact ⟨rfl, rfl⟩
theorem sto_wide : Wide Tryd.prog 61 3 := ⟨⟨_, Tryd.underlying61, rfl⟩, by kernel_rfl⟩
attribute [local go_sem] Oper.semAt_some
set_option maxRecDepth 100000 in
set_option maxHeartbeats 8000000 in
theorem save_fun (rec : Int) (hr : i64P rec) (c : ByteArray) : FunPB Tryd.prog ShaMem 83 (Prg.save rec c) [.w (.one .dv), pvI rec, strV c] stoPV := by
  intro O l hO
  have M := st3M
  have hp : Prg.save rec c = if firstS rec 0 < 0 then .ret ⟨noBytes, 0, 1⟩ else if 2000 < c.size then .ret ⟨noBytes, 0, 19⟩ else
    (Prg.cur rec).bind fun p => if 1099511627776 < p.1.1 + 1 then .ret ⟨noBytes, 0, 19⟩ else (Prg.write (firstS rec (1 - (p.2 : Int))) (encS rec (p.1.1 + 1) c.data.toList)).bind fun _ => .ret ⟨c, p.1.1 + 1, 0⟩ := rfl
  generalize Prg.save rec c = pr at *
  refine funX_ofV Tryd.func83 rfl rfl (fun A hn hI hAO hAs hAS a hga => ?_)
  generalize hstp : (fun h => l <+: h ∧ h <+: (go O pr l).2) = stp
  rw [hstp] at hAs hga
  refine triV_elim ?_ hga (panQ_bodyM _ _ _ _ _ _ _ _ hAO hAs hAS)
  clear hga a
  refine triV_reg M hI hn (outs := ?_) (s' := ?_) ?_ ?_ ?_ ?_
  rotate_left 2
  · rfl
  · kernel_rfl
  · simp
  refine triV_seq ?_
  refine tri_reg M hI hn (outs := ?_) (s' := ?_) ?_ ?_ ?_ ?_
  rotate_left 2
  · rfl
  · kernel_rfl
  · simp
  refine tri_cond (b := ?_) ?_ (fun hc => ?_) (fun hc => ?_)
  rotate_left 1
  · rfl
  · have h : firstS rec 0 < 0 := of_decide_eq_true hc
    rw [if_pos h] at hp
    have hE : go O pr l = (⟨noBytes, 0, 1⟩, l) := by rw [hp]; rfl
    refine tri_reg M hI hn (outs := ?_) (s' := ?_) ?_ ?_ ?_ ?_
    rotate_left 2
    · rfl
    · kernel_rfl
    · simp
    refine tri_ret (fun a w hg => ret_bodyM hAS ?_ ?_ hg)
    rotate_left 1
    · rw [hE]; rfl
    refine retTo_cold (out := ?_) ?_ ?_ ?_ ?_ ?_
    rotate_left 1
    · rfl
    · simp
    · rfl
    · rfl
    rw [hE]
    rfl
  · have h : ¬ firstS rec 0 < 0 := of_decide_eq_false hc
    rw [if_neg h] at hp
    refine tri_skip ?_
    change TriV _ _ _ _ _ _
    refine triV_seq ?_
    refine tri_reg M hI hn (outs := ?_) (s' := ?_) ?_ ?_ ?_ ?_
    rotate_left 2
    · rfl
    · kernel_rfl
    · simp
    refine tri_cond (b := ?_) ?_ (fun hc => ?_) (fun hc => ?_)
    rotate_left 1
    · rfl
    · have h2 : 2000 < c.size := by have := of_decide_eq_true hc; omega
      rw [if_pos h2] at hp
      have hE : go O pr l = (⟨noBytes, 0, 19⟩, l) := by rw [hp]; rfl
      refine tri_reg M hI hn (outs := ?_) (s' := ?_) ?_ ?_ ?_ ?_
      rotate_left 2
      · rfl
      · kernel_rfl
      · simp
      refine tri_ret (fun a w hg => ret_bodyM hAS ?_ ?_ hg)
      rotate_left 1
      · rw [hE]; rfl
      refine retTo_cold (out := ?_) ?_ ?_ ?_ ?_ ?_
      rotate_left 1
      · rfl
      · simp
      · rfl
      · rfl
      rw [hE]
      rfl
    · have h2 : ¬ 2000 < c.size := by have := of_decide_eq_false hc; omega
      rw [if_neg h2] at hp
      refine tri_skip ?_
      change TriV _ _ _ _ _ _
      have hL0 : Left O pr l ((Prg.cur rec).bind fun p => if 1099511627776 < p.1.1 + 1 then .ret ⟨noBytes, 0, 19⟩ else (Prg.write (firstS rec (1 - (p.2 : Int))) (encS rec (p.1.1 + 1) c.data.toList)).bind fun _ => .ret ⟨c, p.1.1 + 1, 0⟩) l := by rw [hp]; exact Left.start _ _ _
      have hL := hL0.step
      refine triV_reg M hI hn (outs := ?_) (s' := ?_) ?_ ?_ ?_ ?_
      rotate_left 2
      · rfl
      · kernel_rfl
      · simp
        refine ⟨⟨hO, hr⟩, fun h h1 h2 h3 => ?_⟩
        rw [← hstp]
        exact hL0.stp h h1 h2 h3
      have hq1 := go_all (R := fun p : (Int × List UInt8) × Nat => (0 ≤ p.1.1 ∧ p.1.1 ≤ 1099511627776) ∧ (p.2 = 0 ∨ p.2 = 1)) O (cur_all rec) l
      obtain ⟨q, lq, hq⟩ : ∃ q lq, go O (Prg.cur rec) l = (q, lq) := ⟨_, _, rfl⟩
      rw [hq] at hL hq1
      dsimp only at hL hq1
      refine triV_conv (s' := ⟨[(1, none, pvI rec), (2, none, strV c), (3, none, pv1 (.pt 0 0 0)), (6, none, pv1 (.pt 1 0 0)), (7, none, pv1 (.pt 5006 0 0)), (8, none, pvI (q.2 : Int))], [(dx, none, 0, .dev O stp lq), (0, none, 0, .box 121 [.dv]), (1, none, 0, .box 61 [.lit (.string noBytes), .lit (.int .i64 0), .lit (.int .i64 0)]), (5006, none, 0, .box 164 [.lit (.int .i64 q.1.1), .lit (.string (strOf q.1.2))])]⟩) (fun a w hg => (hg.reset (kT := [1, 2, 3, 6, 7, 8]) (kO := [900000, 0, 1, 5006]) (by rfl) (by simp)).same ?_ ?_) ?_
      · refine .cons rfl (.cons rfl (.cons rfl (.cons rfl (.cons rfl (.cons ?_ .nil)))))
        rw [hq]
      · refine .cons (.dev ?_) (.cons (.box rfl) (.cons (.box rfl) (.cons (.box ?_) .nil)))
        · show (go O (Prg.cur rec) l).2 = _
          rw [hq]
        · show [PC.lit (.int .i64 (go O (Prg.cur rec) l).1.1.1), PC.lit (.string (strOf (go O (Prg.cur rec) l).1.1.2))] = _
          rw [hq]
      refine triV_reg M hI hn (outs := ?_) (s' := ?_) ?_ ?_ ?_ ?_
      rotate_left 2
      · rfl
      · kernel_rfl
      · simp
      have hw6 : IntKind.i64.wrap (q.1.1 + 1) = q.1.1 + 1 := wrap_i64_id (by omega) (by omega)
      refine triV_seq ?_
      refine tri_reg M hI hn (outs := ?_) (s' := ?_) ?_ ?_ ?_ ?_
      rotate_left 2
      · rfl
      · kernel_rfl
      · simp
      refine tri_cond (b := ?_) ?_ (fun hc => ?_) (fun hc => ?_)
      rotate_left 1
      · rfl
      · have h7 : 1099511627776 < q.1.1 + 1 := by have := of_decide_eq_true hc; rw [hw6] at this; exact this
        have hE : go O pr l = (⟨noBytes, 0, 19⟩, lq) := by
          have := hL.2
          rw [if_pos h7] at this
          exact this
        refine tri_reg M hI hn (outs := ?_) (s' := ?_) ?_ ?_ ?_ ?_
        rotate_left 2
        · rfl
        · kernel_rfl
        · simp
        refine tri_ret (fun a w hg => ret_bodyM hAS ?_ ?_ hg)
        rotate_left 1
        · rw [hE]; rfl
        refine retTo_cold (out := ?_) ?_ ?_ ?_ ?_ ?_
        rotate_left 1
        · rfl
        · simp
        · rfl
        · rfl
        rw [hE]
        rfl
      · have h7 : ¬ 1099511627776 < q.1.1 + 1 := by have := of_decide_eq_false hc; rw [hw6] at this; exact this
        rw [if_neg h7] at hL
        refine tri_skip ?_
        change TriV _ _ _ _ _ _
        have hF1 : IntKind.i64.wrap (1 - (q.2 : Int)) = 1 - (q.2 : Int) := wrap_i64_id (by omega) (by omega)
        refine triV_reg M hI hn (outs := ?_) (s' := ?_) ?_ ?_ ?_ ?_
        rotate_left 2
        · rfl
        · kernel_rfl
        · simp
        unfold Prg.write at hL
        rw [Prg.bind_assoc] at hL
        have hzs : strOf (Lib.repeatL [0] 256) = strOf zeroSec := by rw [repL_zero]; rfl
        have hz2 : (ByteArray.mk #[0]).size ≤ 1 := Nat.le_refl _
        have hFB := firstS_bnd rec (1 - (q.2 : Int))
        generalize hF : firstS rec (1 - (q.2 : Int)) = F at *
        generalize hb : encS rec (q.1.1 + 1) c.data.toList = b at *
        obtain ⟨lz, hlz⟩ : ∃ lz, lq ++ [(⟨4, 0, F, strOf zeroSec⟩ : Acc)] = lz := ⟨_, rfl⟩
        have hGO : go O pr l = (⟨c, q.1.1 + 1, 0⟩, hist F b lz (nsec b) ++ [wAcc F b 0]) := by
          rw [hL.2, go_bind, go_bind, go_bind]
          show ((⟨c, q.1.1 + 1, 0⟩ : StO), (go O (Prg.wrs F b (nsec b - 1) 1) (lq ++ [(⟨4, 0, F, strOf zeroSec⟩ : Acc)])).2 ++ [(⟨4, 0, F, strOf (secS b 0)⟩ : Acc)]) = _
          rw [hlz, go_wrs]
          unfold wAcc
          rw [show F + ((0 : Nat) : Int) = F from Int.add_zero F]
          rfl
        have hlq : l <+: lq := hL.1
        refine triV_reg M hI hn (outs := ?_) (s' := ?_) ?_ ?_ ?_ ?_
        rotate_left 2
        · rfl
        · kernel_rfl
        · simp
          rw [hF1, hF, hzs]
          refine ⟨hz2, hO, fun h h3 h4 _ => ?_⟩
          rw [← hstp]
          refine ⟨hlq.trans h3, h4.trans ?_⟩
          rw [hGO]
          show lq ++ [(⟨4, 0, F, strOf zeroSec⟩ : Acc)] <+: _
          rw [hlz]
          show lz <+: hist F b lz (nsec b) ++ [wAcc F b 0]
          have hz := hist_le F b lz (Nat.zero_le (nsec b))
          rw [hist_zero] at hz
          exact hz.trans (List.prefix_append _ _)
        refine triV_reg M hI hn (outs := ?_) (s' := ?_) ?_ ?_ ?_ ?_
        rotate_left 2
        · rfl
        · kernel_rfl
        · simp
        refine triV_conv (s' := ⟨[(1, none, pvI rec), (2, none, strV c), (3, none, pv1 (.pt 0 0 0)), (6, none, pv1 (.pt 1 0 0)), (9, none, pvI (q.1.1 + 1)), (10, none, pv1 (.pt 9004 0 0)), (11, none, pv1 (.pt 11000 0 0))], [(dx, none, 0, .dev O stp lz), (0, none, 0, .box 121 [.dv]), (1, none, 0, .box 61 [.lit (.string noBytes), .lit (.int .i64 0), .lit (.int .i64 0)]), (9004, none, 0, .box 3 [.lit (.int .i64 F)]), (11000, none, 0, .box 9 [.lit (.string noBytes)])]⟩) (fun a w hg => (hg.reset (kT := [1, 2, 3, 6, 9, 10, 11]) (kO := [900000, 0, 1, 9004, 11000]) (by rfl) (by simp)).same ?_ ?_) ?_
        · refine .cons rfl (.cons rfl (.cons rfl (.cons rfl (.cons ?_ (.cons rfl (.cons rfl .nil))))))
          rw [hw6]
        · refine .cons (.dev ?_) (.cons (.box rfl) (.cons (.box rfl) (.cons (.box ?_) (.cons (.box rfl) .nil))))
          · show lq ++ [(⟨4, 0, firstS rec (IntKind.i64.wrap (1 - (q.2 : Int))), strOf (Lib.repeatL [0] 256)⟩ : Acc)] = lz
            rw [hF1, hF, hzs, hlz]
          · rw [hF1, hF]
        intro a w hg hPQ
        obtain ⟨env, hE⟩ := hg
        obtain ⟨g3, cs3, t3, e3, b3, r3⟩ := Gam.box_at hE (t := 3) (x := 0) rfl rfl
        obtain ⟨g6, cs6, t6, e6, b6, r6⟩ := Gam.box_at hE (t := 6) (x := 1) rfl rfl
        obtain ⟨g10, cs10, t10, e10, b10, r10⟩ := Gam.box_at hE (t := 10) (x := 9004) rfl rfl
        obtain ⟨g11, cs11, t11, e11, b11, r11⟩ := Gam.box_at hE (t := 11) (x := 11000) rfl rfl
        obtain ⟨dv1, dv2, hi⟩ := hE.dev none 0 O stp lz rfl trivial
        clear dv1 dv2
        have hcg : Chg A.dv.S A.w0 w := hE.chg.mono fun b _ h => (hAS b).1 h
        have x3 : ownB A env g3 := .inr ⟨0, 0, _, e3, rfl⟩
        have x6 : ownB A env g6 := .inr ⟨1, 0, _, e6, rfl⟩
        have x10 : ownB A env g10 := .inr ⟨9004, 0, _, e10, rfl⟩
        have x11 : ownB A env g11 := .inr ⟨11000, 0, _, e11, rfl⟩
        have n6 : g6 ≠ g11 := fun e => by
          have := hE.inj 1 11000 0 _ 0 _ g6 e6 e11 rfl (by rw [e]; rfl)
          cases this
        have n3 : g3 ≠ g11 := fun e => by
          have := hE.inj 0 11000 0 _ 0 _ g3 e3 e11 rfl (by rw [e]; rfl)
          cases this
        have n10 : g10 ≠ g11 := fun e => by
          have := hE.inj 9004 11000 0 _ 0 _ g10 e10 e11 rfl (by rw [e]; rfl)
          cases this
        have n36 : g3 ≠ g6 := fun e => by
          have := hE.inj 0 1 0 _ 0 _ g3 e3 e6 rfl (by rw [e]; rfl)
          cases this
        have n106 : g10 ≠ g6 := fun e => by
          have := hE.inj 9004 1 0 _ 0 _ g10 e10 e6 rfl (by rw [e]; rfl)
          cases this
        have l6 : A.w0.heap.size ≤ g6 := (hE.live 1 0 _ g6 e6 rfl).2.resolve_right (fun h => A.dv.notS _ _ _ _ hi x6 ((hAS _).1 h))
        have l11 : A.w0.heap.size ≤ g11 := (hE.live 11000 0 _ g11 e11 rfl).2.resolve_right (fun h => A.dv.notS _ _ _ _ hi x11 ((hAS _).1 h))
        obtain rfl : cs6 = #[.string noBytes, .int .i64 0, .int .i64 0] := rl_lits_arr (vs := [.string noBytes, .int .i64 0, .int .i64 0]) r6
        obtain rfl : cs10 = #[.int .i64 F] := rl_lits_arr (vs := [.int .i64 F]) r10
        obtain rfl : cs11 = #[.string noBytes] := rl_lits_arr (vs := [.string noBytes]) r11
        obtain rfl : cs3 = #[A.dv.hd] := rl_dv r3 (fun ver hd h => by
          obtain ⟨hd2, e5, _⟩ := hE.objs dx none 0 _ rfl
          have h0 : env dx = some (ver, hd) := h
          rw [e5] at h0
          cases h0
          exact ⟨rfl, (hE.exts dx A.dv.hd (hI.dvh _ _ _ hi)).2.now e5⟩)
        have hsz : a.tmps.size = 65 := hE.size.trans (hn.trans rfl)
        have t1 := lit_at hE (t := 1) rfl
        have t2 := lit_at hE (t := 2) rfl
        have t9 := lit_at hE (t := 9) rfl
        obtain ⟨u0, u1, u2, u3, u4, u5, u6, u7, u8, u9, u10, u11, u12, u13, u14, u15, u16, u17, u18, u19, u20, u21, u22, u23, u24, u25, u26, u27, u28, u29, u30, u31, u32, u33, u34, u35, u36, u37, u38, u39, u40, u41, u42, u43, u44, u45, u46, u47, u48, u49, u50, u51, u52, u53, u54, u55, u56, u57, u58, u59, u60, u61, u62, u63, u64, rfl⟩ := act65 a hsz hE.defers
        obtain rfl : u1 = _ := Option.some.inj t1
        obtain rfl : u2 = _ := Option.some.inj t2
        obtain rfl : u3 = _ := Option.some.inj t3
        obtain rfl : u6 = _ := Option.some.inj t6
        obtain rfl : u9 = _ := Option.some.inj t9
        obtain rfl : u10 = _ := Option.some.inj t10
        obtain rfl : u11 = _ := Option.some.inj t11
        have hM := hI.mem w hE.chg
        have HW := hide (And.intro hi (And.intro hcg (And.intro b3 (And.intro b6 (And.intro b10 b11)))))
        have HX := hide (And.intro x3 (And.intro x6 (And.intro x10 x11)))
        have HL := hide (And.intro l6 l11)
        have HN := hide (And.intro n6 (And.intro n3 (And.intro n10 (And.intro n36 n106))))
        have HE := hide hE.chg.size
        have hbl : b.length ≤ 3000 ∧ 0 < b.length := by
          rw [← hb, encS_length, encB_length]
          have := wInt_length (q.1.1 + 1)
          have := wInt_length (c.data.toList.length : Int)
          have hcl : c.data.toList.length = c.size := Array.length_toList
          omega
        have HEc := hide (enc_call rec (q.1.1 + 1) c hr ⟨by omega, by omega⟩ (by omega) w hM)
        have HSc := hide (fun v hv W => sectors_any v hv W)
        rw [hb] at HEc
        have HG := hide (And.intro hGO (And.intro hL.1 (And.intro hlz (And.intro hAO (And.intro hAs (And.intro hAS (And.intro hI (And.intro hstp hPQ))))))))
        have HC := hide (And.intro hbl hq1)
        have HFB := hide hFB
        clear hFB
        clear l6 l11 hPQ hM hi hcg b3 b6 b10 b11 x3 x6 x10 x11 n6 n3 n10 n36 n106 hE t1 t2 t3 t6 t9 t10 t11 e3 e6 e10 e11 r3 r6 r10 r11 hsz hGO hL hL0 hlz hAO hAs hAS hI hstp hbl hq1 hlq hzs hz2 hF1 hb hF hq h7 hw6 h2 h hp hO hr M hn
        refine wpV_seq (wpV_seq (wpV_of_wp ?_))
        go_wp2_with (first
          | (go_at_call 124; refine (unhide HEc).mono ?_; rintro e w1 ⟨G, cap, rfl, k1, k2, k3, k4, k5, k6⟩; have H1 := hide (And.intro k1 (And.intro k2 (And.intro k3 (And.intro k4 (And.intro k5 k6))))); clear k1 k2 k3 k4 k5 k6)
          | (go_at_call 123; refine (unhide HSc _ rfl _).mono ?_; rintro e w2 ⟨rfl, rfl⟩))
        change wpV _ _ _ _ _ _
        refine wpV_block ?_
        obtain ⟨W0, hW0⟩ : ∃ x, w1.alloc (.cells #[.slice (some ⟨G, 0, none⟩) b.length cap] 29) = x := ⟨_, rfl⟩
        have hsz0 : W0.heap.size = w1.heap.size + 1 := by rw [← hW0]; simp
        have hwW : Ext w W0 := by rw [← hW0]; exact (unhide H1).1.alloc _
        have hBx : W0.cell? ⟨w1.heap.size, 0, none⟩ = some (.slice (some ⟨G, 0, none⟩) b.length cap) := by rw [← hW0]; exact new_cell _ _ _ rfl rfl
        have hGr : W0.rangeAt G 0 (b.map u8v) := by rw [← hW0]; exact fun j v hj => Ext.cellv ((Ext.refl w1).alloc _) ((unhide H1).2.2.2.2.2 j v hj)
        obtain ⟨X, hXd⟩ : ∃ X : Nat → Prop, X = fun i => ownB A env i ∨ (w.heap.size ≤ i ∧ i < W0.heap.size + 2) := ⟨_, rfl⟩
        have hX3 : X g3 := by rw [hXd]; exact .inl (unhide HX).1
        have hX6 : X g6 := by rw [hXd]; exact .inl (unhide HX).2.1
        have hX10 : X g10 := by rw [hXd]; exact .inl (unhide HX).2.2.1
        have hX11 : X g11 := by rw [hXd]; exact .inl (unhide HX).2.2.2
        have hXn : ∀ i, w.heap.size ≤ i → i < W0.heap.size + 2 → X i := fun i h1 h2 => by rw [hXd]; exact .inr ⟨h1, h2⟩
        have hin0 : ∀ W, Ext W0 W → W0.heap.size + 2 ≤ W.heap.size → SvJ A X W0.heap.size g3 g6 g10 g11 F b lz 0 W := fun W hE hs => by
          have hEw : Ext w W := hwW.trans hE
          refine ⟨(unhide HW).2.1.ext hEw, ?_, (unhide HW).2.2.1.ext hEw, (unhide HW).2.2.2.1.ext hEw, (unhide HW).2.2.2.2.1.ext hEw, ?_, hE.size'⟩
          · rw [hist_zero]
            refine A.dv.grow _ _ _ _ _ (unhide HW).1 hEw.chg (fun i hi => ?_)
            rw [hXd] at hi
            rcases hi with hi | ⟨h1, h2⟩
            · exact .inl hi
            · exact .inr ⟨h1, by omega⟩
          · rw [if_pos rfl]
            exact (unhide HW).2.2.2.2.2.ext hEw
        have hnS : ∀ i, X i → ¬ A.dv.S i := fun i hi hs => by
          rw [hXd] at hi
          rcases hi with hi | ⟨h1, h2⟩
          · exact A.dv.notS _ _ _ _ (unhide HW).1 hi hs
          · have := ((unhide HG).2.2.2.2.2.2.1.old i (((unhide HG).2.2.2.2.2.1 i).2 hs)).1
            have := unhide HE
            omega
        have hseq := sectors_pan b (unhide HC).1.1 (unhide HC).1.2 w1.heap.size G cap (fun i => A.dv.S i ∨ i = g11) W0 (fun h => ?s1) (fun h => ?s2) hBx (unhide H1).2.2.2.1 (unhide H1).2.2.2.2.1 (by omega) (by have := (unhide H1).2.2.1; omega) hGr
        case s1 =>
          rcases h with h | h
          · exact hnS _ (hXn _ (unhide H1).1.size' (by omega)) h
          · have := (unhide HW).2.2.2.2.2.lt
            have := (unhide H1).1.size'
            omega
        case s2 =>
          rcases h with h | h
          · exact hnS _ (hXn _ (unhide H1).2.1 (by have := (unhide H1).2.2.1; omega)) h
          · have := (unhide HW).2.2.2.2.2.lt
            have := (unhide H1).2.1
            omega
        have HXD := hide hXd
        clear hXd
        rw [hW0]
        have hn1 : A.w0.heap.size ≤ W0.heap.size := Nat.le_trans (unhide HE) hwW.size'
        have hwn := hwW.size'
        obtain ⟨Sx, hSx⟩ : ∃ S : Nat → Prop, S = fun i => A.dv.S i ∨ i = g11 := ⟨_, rfl⟩
        rw [← hSx] at hseq
        have HSX := hide hSx
        clear hSx
        refine wpV_rangeP (gf := 154) (lb := #[.pointer (some ⟨w1.heap.size, 0, none⟩)]) (encs := fun k => #[.int .i64 (k : Int), .string (strOf (secS b k))]) (S := Sx) (N := nsec b) ⟨_, Tryd.func83⟩ rfl (call_enters Tryd.func154 (by kernel_rfl) rfl) hseq (fun _ => rfl)
          (SvJ A X W0.heap.size g3 g6 g10 g11 F b lz) (fun k W W' h hc hk => h.keep hn1 (fun i hi => hXn i (by rcases hi with h | h <;> omega) (by rcases hi with h | h <;> omega)) hc hk) hin0
          (fun ch W => Chg A.dv.S A.w0 W ∧ ∃ l', (lz <+: l' ∧ l' <+: hist F b lz (nsec b)) ∧ A.dv.O l' = none ∧ A.dv.pan l' X W ch)
          (fun k a' => a' = { tmps := #[u0, .int .i64 rec, .string c, .pointer (some ⟨g3, 0, none⟩), u4, u5, .pointer (some ⟨g6, 0, none⟩), u7, u8, .int .i64 (q.1.1 + 1), .pointer (some ⟨g10, 0, none⟩), .pointer (some ⟨g11, 0, none⟩), .int .i64 (k : Int), .string (strOf (secS b k)), u14, u15, u16, u17, u18, u19, u20, u21, u22, u23, u24, u25, u26, u27, u28, u29, u30, u31, u32, u33, u34, u35, u36, u37, u38, u39, u40, u41, .int .i64 rec, .int .i64 (q.1.1 + 1), .string c, .slice (some ⟨G, 0, none⟩) b.length cap, .func (.func 154) #[] #[.pointer (some ⟨w1.heap.size, 0, none⟩)], .int .i64 (k : Int), .string (strOf (secS b k)), u49, u50, u51, u52, u53, u54, u55, u56, u57, u58, u59, u60, u61, u62, u63, u64], defers := [] }) ?assign ?body ?done ?pan
        case assign =>
          intro l1 k W K hK
          clear hseq hin0 hXn hnS HEc HSc
          gi_wp2
          exact hK _ _ (Ext.refl _) rfl
        case body =>
          rintro l1 k a' W hJ rfl hlt
          by_cases hk0 : k = 0
          · subst hk0
            have c11 := hJ.b11.cell 0
            have f11 := hJ.b11.frozen 0
            have lt11 := hJ.b11.lt
            rw [if_pos rfl] at c11
            have c11' : W.cell? ⟨g11, 0, none⟩ = some (.string noBytes) := c11
            clear c11 hseq hin0 HEc HSc hW0 hsz0
            have HJ := hide hJ
            clear hJ
            gi_wp2
            have c1 : Chg (fun i => i = g11) W (W.setCell ⟨g11, 0, none⟩ (.string (strOf (secS b 0)))) := (Chg.refl (fun i => i = g11) W).setCell (p := ⟨g11, 0, none⟩) (.inl rfl) _
            refine ⟨⟨(unhide HJ).chg.trans' c1 (fun _ _ h => h) (fun i hi e => by have := (unhide HL).2; omega), ?_, (unhide HJ).b3.far (unhide HN).2.1 _, (unhide HJ).b6.far (unhide HN).1 _, (unhide HJ).b10.far (unhide HN).2.2.1 _, ?_, Nat.le_trans (unhide HJ).sz c1.size⟩, fun i hi hn => ?_, fun i o hi ho hno => ?_⟩
            · have := A.dv.grow _ _ _ _ _ (unhide HJ).inv (c1.mono fun i _ e => e ▸ hX11) (fun i hi => .inl hi)
              rw [hist_zero] at this
              rw [hist_one]
              exact this
            · have := (unhide HJ).b11.set_ 0 (.string (strOf (secS b 0)))
              rw [if_neg (by omega)]
              exact this
            · exact Below.heap_setCell W _ _ i (fun e => hn (by rw [unhide HSX]; exact .inr e))
            · rw [Below.heap_setCell W _ _ i (fun e => by
                have e2 : i = g11 := e
                have := (unhide HW).2.2.2.2.2.lt
                omega)]
              exact ho
          · have hkI : ¬ (k : Int) = 0 := by omega
            have c3 : W.cell? ⟨g3, 0, none⟩ = some A.dv.hd := hJ.b3.cell 0
            have c10 : W.cell? ⟨g10, 0, none⟩ = some (.int .i64 F) := hJ.b10.cell 0
            have hkn : k ≤ 12 := by have := (unhide HC).1.1; unfold nsec at hlt; omega
            have hwF : wrap64 (F + (k : Int)) = F + (k : Int) := by have := unhide HFB; unfold wrap64; omega
            have HJ := hide hJ
            have HWr := hide (wr_call (unhide HG).2.2.2.2.2.2.1 hJ.inv (unhide HG).2.2.2.2.2.1 hJ.chg (F + (k : Int)) (strOf (secS b k)))
            clear hJ hseq hin0 HEc HSc hW0 hsz0
            gi_wp2_with ((refine ⟨trivial, ?_⟩; gi_at_call 122; refine (CallsIn.inRound l1 (callsIn_wide.2 (unhide HWr))).mono ?_))
            have hkp : ∀ W', Chg A.dv.S W W' → KpS Sx W0.heap.size W W' := fun W' hc1 i hi hn => hc1.block i (Nat.lt_of_lt_of_le hi (unhide HJ).sz) (fun h => hn (by rw [unhide HSX]; exact .inl h))
            have hko : ∀ W', Chg A.dv.S W W' → KeepO W0.heap.size W W' := fun W' hc1 i o hi ho hno => (hc1.block i (lt_of_heap ho) (fun h => by
              have := ((unhide HG).2.2.2.2.2.2.1.old i (((unhide HG).2.2.2.2.2.1 i).2 h)).1
              omega)).trans ho
            rintro e w' ⟨hc1, ⟨v, rfl, hi2⟩ | ⟨ch, l', rfl, hl', hO2, hpan⟩⟩
            · have HJ2 := hide ((unhide HJ).wrote hX3 hX6 hX10 hX11 (by omega) hc1 hi2)
              have HK := hide (And.intro (hkp _ hc1) (hko _ hc1))
              clear hkp hko hc1 hi2
              gi_wp2
              exact ⟨unhide HJ2, (unhide HK).1, (unhide HK).2⟩
            · refine ⟨rfl, ⟨(unhide HJ).chg.trans hc1, l', ⟨?_, ?_⟩, hO2, hpan⟩, hko _ hc1⟩
              · have hz := hist_le F b lz (Nat.zero_le k)
                rw [hist_zero] at hz
                exact hz.trans hl'.1
              · refine hl'.2.trans ?_
                have hz := hist_le F b lz (Nat.succ_le_of_lt hlt)
                rw [hist_next F b lz k (by omega)] at hz
                exact hz
        case done =>
          intro D W hJ hD hDl
          have hnp : 0 < nsec b := by have := (unhide HC).1.2; unfold nsec; omega
          change wpV _ _ _ _ _ _
          refine wpV_of_wp ?_
          have c3 : W.cell? ⟨g3, 0, none⟩ = some A.dv.hd := hJ.b3.cell 0
          have c10 : W.cell? ⟨g10, 0, none⟩ = some (.int .i64 F) := hJ.b10.cell 0
          have c11 : W.cell? ⟨g11, 0, none⟩ = some (.string (strOf (secS b 0))) := by
            have := hJ.b11.cell 0
            rw [if_neg (by omega)] at this
            exact this
          have HJ := hide hJ
          have HD := hide (And.intro hD hDl)
          have HWr := hide (wr_call (unhide HG).2.2.2.2.2.2.1 hJ.inv (unhide HG).2.2.2.2.2.1 hJ.chg F (strOf (secS b 0)))
          clear hJ hseq hin0 HEc HSc hW0 hsz0 hD hDl
          go_wp2_with ((go_at_call 122; refine (unhide HWr).mono ?_))
          have hAX : ∀ i, A.X0 i → X i := fun i h => by rw [unhide HXD]; exact .inl (.inl h)
          have h0f : F + ((0 : Nat) : Int) = F := Int.add_zero F
          rintro e w2 ⟨hc1, ⟨v, rfl, hi2⟩ | ⟨ch, l', rfl, hl', hO2, hpan⟩⟩
          · have H2 := hide (And.intro ((unhide HJ).chg.trans hc1) (And.intro hi2 (And.intro ((unhide HJ).b6.chg hc1 ((unhide HJ).notS hX6)) (show w2.heap[D]? = some (.deferred (some [])) from (hc1.block D (lt_of_heap (unhide HD).1) ((unhide HJ).notS (hXn D (by have := (unhide HD).2; omega) (by have := (unhide HD).2; omega)))).trans (unhide HD).1))))
            clear hc1 hi2
            have c60 : w2.cell? ⟨g6, 0, none⟩ = some (.string noBytes) := (unhide H2).2.2.1.cell 0
            have c61 : w2.cell? ⟨g6, 1, none⟩ = some (.int .i64 0) := (unhide H2).2.2.1.cell 1
            have c62 : w2.cell? ⟨g6, 2, none⟩ = some (.int .i64 0) := (unhide H2).2.2.1.cell 2
            have f60 := (unhide H2).2.2.1.frozen 0
            have f61 := (unhide H2).2.2.1.frozen 1
            have f62 := (unhide H2).2.2.1.frozen 2
            have lt6 := (unhide H2).2.2.1.lt
            go_wp2
            obtain rfl := (unhide HD).2
            have hb6 : Blk (((w2.setCell ⟨g6, 0, none⟩ (.string c)).setCell ⟨g6, 1, none⟩ (.int .i64 (q.1.1 + 1))).setCell ⟨g6, 2, none⟩ (.int .i64 0)) g6 61 #[.string c, .int .i64 (q.1.1 + 1), .int .i64 0] := (((unhide H2).2.2.1.set_ 0 _).set_ 1 _).set_ 2 _
            have c6 : Chg (fun i => i = g6) w2 (((w2.setCell ⟨g6, 0, none⟩ (.string c)).setCell ⟨g6, 1, none⟩ (.int .i64 (q.1.1 + 1))).setCell ⟨g6, 2, none⟩ (.int .i64 0)) := (((Chg.refl (fun i => i = g6) w2).setCell (p := ⟨g6, 0, none⟩) (.inl rfl) _).setCell (p := ⟨g6, 1, none⟩) (.inl rfl) _).setCell (p := ⟨g6, 2, none⟩) (.inl rfl) _
            generalize ((w2.setCell ⟨g6, 0, none⟩ (.string c)).setCell ⟨g6, 1, none⟩ (.int .i64 (q.1.1 + 1))).setCell ⟨g6, 2, none⟩ (.int .i64 0) = W3 at *
            have g6w : g6 < W0.heap.size := by have := (unhide HW).2.2.2.1.lt; omega
            have hD3 : W3.heap[W0.heap.size]? = some (.deferred (some [])) := (c6.block _ (lt_of_heap (unhide H2).2.2.2) (fun e => by omega)).trans (unhide H2).2.2.2
            have hcp : Chg (fun i => i = W0.heap.size) W3 (W3.putObj W0.heap.size (.deferred none)) := ⟨rfl, rfl, rfl, by simp, fun b _ hn => World.putObj_heap_other hn⟩
            refine leave_mark (v := .agg #[.string c, .int .i64 (q.1.1 + 1), .int .i64 0]) rfl hD3 (results_blk sto_wide rfl ((World.putObj_heap_other (by omega)).trans hb6) rfl rfl) ?_
            have ct : Chg X w2 (W3.putObj W0.heap.size (.deferred none)) := (c6.mono fun i _ e => e ▸ hX6).trans' hcp (fun _ _ h => h) (fun i _ e => hXn i (by omega) (by omega))
            refine ⟨((unhide H2).1.trans' c6 (fun _ _ h => h) (fun i hi e => by have := (unhide HL).1; omega)).trans' hcp (fun _ _ h => h) (fun i hi e => by omega), .inl ⟨_, rfl, ?_, ?_⟩⟩
            · rw [(unhide HG).1]
              exact .w (.agg (.cons (.lit rfl) (.cons (.lit rfl) (.cons (.lit rfl) .nil))))
            · rw [(unhide HG).1]
              have := A.dv.grow _ _ _ _ _ (unhide H2).2.1 ct (fun i hi => .inl (hAX i hi))
              unfold wAcc
              rw [h0f]
              exact this
          · have hcp : Chg (fun i => i = W0.heap.size) w2 (w2.putObj W0.heap.size (.deferred none)) := ⟨rfl, rfl, rfl, by simp, fun b _ hn => World.putObj_heap_other hn⟩
            obtain rfl := (unhide HD).2
            have hD2 : w2.heap[W0.heap.size]? = some (.deferred (some [])) := (hc1.block _ (lt_of_heap (unhide HD).1) ((unhide HJ).notS (hXn _ (by omega) (by omega)))).trans (unhide HD).1
            show LeavesInM Fence.wide 3 _ _ _ _ [{ target := .collected W0.heap.size, args := #[] }] (.panicking ch) w2
            refine ⟨by simp, .inl ⟨_, _, rfl, run_takeDeferred hD2, ?_⟩⟩
            refine ⟨((unhide HJ).chg.trans hc1).trans' hcp (fun _ _ h => h) (fun i hi e => by omega), .inr ⟨ch, l', rfl, ?_, by rw [← (unhide HG).2.2.2.1]; exact hO2, (unhide HG).2.2.2.2.2.2.1.panW _ _ _ _ _ _ hpan (hcp.mono fun i _ e => hXn i (by omega) (by omega)) hAX⟩⟩
            rw [← (unhide HG).2.2.2.2.2.2.2.1]
            refine ⟨(unhide HG).2.1.trans (?_ : lq <+: l'), hl'.2.trans ?_⟩
            · have := List.prefix_append lq [(⟨4, 0, F, strOf zeroSec⟩ : Acc)]
              rw [(unhide HG).2.2.1] at this
              have hz := hist_le F b lz (Nat.zero_le (nsec b))
              rw [hist_zero] at hz
              exact (this.trans hz).trans hl'.1
            · rw [(unhide HG).1]
              unfold wAcc
              rw [h0f]
              exact List.prefix_refl _
        case pan =>
          rintro D ch W ⟨hc, l', h1, h2, h3⟩ hD rfl
          have hAX : ∀ i, A.X0 i → X i := fun i h => by rw [unhide HXD]; exact .inl (.inl h)
          have hcp : Chg (fun i => i = W0.heap.size) W (W.putObj W0.heap.size (.deferred none)) := ⟨rfl, rfl, rfl, by simp, fun b _ hn => World.putObj_heap_other hn⟩
          show LeavesInM Fence.wide 3 _ _ _ _ [{ target := .collected W0.heap.size, args := #[] }] (.panicking ch) W
          refine ⟨by simp, .inl ⟨_, _, rfl, run_takeDeferred hD, ?_⟩⟩
          refine ⟨hc.trans' hcp (fun _ _ h => h) (fun i hi e => by omega), .inr ⟨ch, l', rfl, ?_, by rw [← (unhide HG).2.2.2.1]; exact h2, (unhide HG).2.2.2.2.2.2.1.panW _ _ _ _ _ _ h3 (hcp.mono fun i _ e => hXn i (by omega) (by omega)) hAX⟩⟩
          rw [← (unhide HG).2.2.2.2.2.2.2.1]
          refine ⟨(unhide HG).2.1.trans (?_ : lq <+: l'), h1.2.trans ?_⟩
          · have := List.prefix_append lq [(⟨4, 0, F, strOf zeroSec⟩ : Acc)]
            rw [(unhide HG).2.2.1] at this
            exact this.trans h1.1
          · rw [(unhide HG).1]
            exact List.prefix_append _ _
end Go.Proofs.YtoefmncdloffaaaDoor.Pv


namespace Go.Proofs.YtoefmncdloffaaaDoor
open Go.RowKit
structure RunInv (A L : Nat) (lv : Value) (log : List Res) (i : Nat) (X : Nat → Prop) (w : World) : Prop where
  at_ : w.heap[A]? = some (.cells #[.int .i64 (i : Int)] 3 (0, 0))
  logv : w.heap[L]? = some (.cells #[lv] 56 (0, 0))
  reads : Reads w 2 lv log.length (logCells log)
  ne : A ≠ L
  own : 0 < log.length → lv.ownBlock ≠ some A
  le : i ≤ log.length
  mine : ∀ k, X k → k < w.heap.size ∧ k ≠ A ∧ k ≠ L ∧ (0 < log.length → lv.ownBlock ≠ some k)
def pending (a : Acc) : Value := .iface 162 a.v
theorem RunInv.chg {A L : Nat} {lv : Value} {log : List Res} {i : Nat} {X : Nat → Prop} {w w' : World} (h : RunInv A L lv log i X w) (hc : Chg X w w') : RunInv A L lv log i X w' :=
  ⟨Chg.blk hc h.at_ (fun hx => (h.mine _ hx).2.1 rfl), Chg.blk hc h.logv (fun hx => (h.mine _ hx).2.2.1 rfl), h.reads.chg hc (fun _ hn hk hx => (h.mine _ hx).2.2.2 hn hk), h.ne, h.own, h.le,
    fun k hk => ⟨Nat.lt_of_lt_of_le (h.mine k hk).1 hc.size, (h.mine k hk).2⟩⟩
theorem RunInv.step {A L : Nat} {lv : Value} {log : List Res} {i : Nat} {X : Nat → Prop} {w : World} (h : RunInv A L lv log i X w) (hi : i < log.length) : RunInv A L lv log (i + 1) X (w.setCell ⟨A, 0, none⟩ (.int .i64 ((i : Int) + 1))) := by
  have hc : Chg (fun k => k = A) w (w.setCell ⟨A, 0, none⟩ (.int .i64 ((i : Int) + 1))) := Chg.setCell (S := fun k => k = A) (p := ⟨A, 0, none⟩) (Chg.refl _ _) (.inl rfl) _
  refine ⟨?_, Chg.blk hc h.logv (fun e => h.ne e.symm), h.reads.chg hc (fun k hn hk e => h.own hn (e ▸ hk)), h.ne, h.own, hi, fun k hk => ⟨Nat.lt_of_lt_of_le (h.mine k hk).1 hc.size, (h.mine k hk).2⟩⟩
  exact one_setCell h.at_
set_option maxHeartbeats 400000 in
theorem run_do (A L : Nat) (lv : Value) (log : List Res) (a : Acc) (i : Nat) (X : Nat → Prop) (w : World) (h : RunInv A L lv log i X w) (F : Nat) (hF : F = 118) :
    Calls Tryd.prog F (#[a.v] ++ #[.pointer (some ⟨A, 0, none⟩), .pointer (some ⟨L, 0, none⟩)]) w (StepPost (RunInv A L lv log) (fun k => k = A) X pending w Res.v (replay log a i)) := by
  subst hF
  have hA := cell_of_one h.at_
  have hfA := free_of_one h.at_
  have hL := cell_of_one h.logv
  have hAw := lt_of_heap h.at_
  have hLw := lt_of_heap h.logv
  have hne : ¬ L = A := fun e => h.ne e.symm
  have hmx := h.reads.len_le
  have HH := hide h
  obtain ⟨_, B, c, rfl, hnc, hcm, _⟩ := h.reads
  clear h
  unfold maxLen at hmx
  obtain ⟨ak, ab, ac, ax⟩ := a
  simp only [Acc.v]
  by_cases hlt : i < log.length
  · obtain ⟨b, o, c', u1, u2, hv, _, _, hb, hu1, hu2, hc1, hc2⟩ := (unhide HH).reads.at2 hlt
    cases hv
    have hbA : ¬ b = A := fun e => (unhide HH).own (by omega) (by rw [e]; rfl)
    rw [(logCells_get log i).1, List.getElem?_eq_getElem hlt] at hu1
    rw [(logCells_get log i).2, List.getElem?_eq_getElem hlt] at hu2
    cases hu1
    cases hu2
    have R : Hid (replay log ⟨ak, ab, ac, ax⟩ i = .ok log[i] (i + 1)) := hide (by unfold replay; rw [List.getElem?_eq_getElem hlt])
    generalize log[i] = r at *
    have hli : ¬ log.length ≤ i := by omega
    go_enter Tryd.func118, Tryd.ntmps118
    go_wp2
    go_returns
    have hs := (unhide HH).step hlt
    refine StepPost.ok (unhide R) rfl ?_ ?_
    · exact (hs.chg (Chg.alloc (Chg.refl _ _) _)).chg (Chg.alloc (Chg.refl _ _) _)
    · exact ((Chg.setCell (S := fun k => k = A) (p := ⟨A, 0, none⟩) (Chg.refl _ _) (.inl rfl) _).alloc _).alloc _
  · have R : Hid (replay log ⟨ak, ab, ac, ax⟩ i = .error ⟨ak, ab, ac, ax⟩ i) := hide (by unfold replay; rw [List.getElem?_eq_none (by omega)])
    have hli : log.length ≤ i := by omega
    go_enter Tryd.func118, Tryd.ntmps118
    go_wp2
    refine ⟨rfl, StepPost.err (unhide R) rfl ?_ ?_⟩
    · exact ((unhide HH).chg (Chg.alloc (Chg.refl _ _) _)).chg (Chg.alloc (Chg.refl _ _) _)
    · exact ((Chg.refl _ _).alloc _).alloc _
theorem assert_pending (x : Value) (w : World) : (Instr.typeAssert (.iface 162 x) 20 162 true).run Tryd.prog w = .ok (.tuple #[x, .bool true]) w := by kernel_rfl
attribute [local go_sem] assert_pending
set_option maxRecDepth 100000 in
set_option maxHeartbeats 1000000 in
theorem catch_panicking (Ab Ob Db : Nat) (a : Acc) (x0 x1 x2 x3 y0 y1 y2 z0 : Value) (older : List PanicEntry) (w : World)
    (hA : Blk w Ab 59 #[x0, x1, x2, x3]) (hO : Blk w Ob 61 #[y0, y1, y2]) (hD : Blk w Db 4 #[z0]) (hAO : ¬ Ab = Ob) (hAD : ¬ Ab = Db) (hOD : ¬ Ob = Db) :
    CallsD Tryd.prog 119 #[.pointer (some ⟨Ab, 0, none⟩), .pointer (some ⟨Ob, 0, none⟩), .pointer (some ⟨Db, 0, none⟩)] (.panicking ({ v := pending a, recovered := false } :: older)) w fun e u' w' =>
      e = .returned (.tuple #[]) ∧ u' = .panicking ({ v := pending a, recovered := true } :: older) ∧ Chg (fun k => k = Ab ∨ k = Ob ∨ k = Db) w w' ∧
      Blk w' Ab 59 #[.int .i64 a.kind, .int .i64 a.bank, .int .i64 a.cell, .string a.bytes] ∧ Blk w' Ob 61 #[.string { data := #[] }, .int .i64 0, .int .i64 0] ∧ Blk w' Db 4 #[.bool false] := by
  have hA0 := hA.cell 0
  have hA1 := hA.cell 1
  have hA2 := hA.cell 2
  have hA3 := hA.cell 3
  have hO0 := hO.cell 0
  have hO1 := hO.cell 1
  have hO2 := hO.cell 2
  have hD0 := hD.cell 0
  have fA := hA.frozen
  have fO := hO.frozen
  have fD := hD.frozen
  have lA := hA.lt
  have lO := hO.lt
  have lD := hD.lt
  simp only [List.getElem?_toArray, List.getElem?_cons_zero, List.getElem?_cons_succ] at hA0 hA1 hA2 hA3 hO0 hO1 hO2 hD0
  have HA := hide hA
  have HO := hide hO
  have HD := hide hD
  clear hA hO hD
  have hAO' : ¬ Ob = Ab := fun e => hAO e.symm
  have hAD' : ¬ Db = Ab := fun e => hAD e.symm
  have hOD' : ¬ Db = Ob := fun e => hOD e.symm
  obtain ⟨ak, ab, ac, ax⟩ := a
  simp only [pending, Acc.v]
  refine callsD_of_wpS Tryd.func119 rfl fun c₀ cs hu => ?_
  simp only [Tryd.ntmps119, List.size_toArray, List.length_cons, List.length_nil, Nat.reduceAdd, Nat.reduceSub, Array.replicate_succ, Array.replicate_zero, List.push_toArray, List.append_toArray, List.nil_append, List.cons_append]
  apply wpS_seq
  apply wpS_region
  simp [wpOpsS, go_sem, recoverD, hu, Exit.thenS]
  refine wpS_of_wp ?_
  go_wp2
  go_region
  go_wp2
  refine ⟨rfl, _, rfl, .tuple #[], results_none rfl _ _ _, rfl, rfl, ?_, ?_, ?_, ?_⟩
  · repeat' (first | (with_reducible exact Chg.refl _ _) | (with_reducible exact Ext.refl _) | (with_reducible assumption) | (with_reducible refine Chg.alloc ?_ _) | (with_reducible refine Chg.drew ?_) | (with_reducible refine Chg.drewN ?_ _) | (with_reducible refine Chg.setCell ?_ ?_ _) | (with_reducible refine Ext.alloc ?_ _) | (with_reducible refine Ext.drew ?_) | (with_reducible refine Ext.drewN ?_ _) | (with_reducible refine Ext.setCell ?_ ?_ _) | (simp; done) | (simp; omega) | omega)
  · exact ((((((((((((unhide HA).set_ 0 _).set_ 1 _).set_ 2 _).set_ 3 _).far (p := ⟨Ob, 0, none⟩) hAO _).far (p := ⟨Ob, 1, none⟩) hAO _).far (p := ⟨Ob, 2, none⟩) hAO _)).far (p := ⟨Db, 0, none⟩) hAD _).alloc _).alloc _).drew
  · exact (((((((((((unhide HO).far (p := ⟨Ab, 0, none⟩) hAO' _).far (p := ⟨Ab, 1, none⟩) hAO' _).far (p := ⟨Ab, 2, none⟩) hAO' _).far (p := ⟨Ab, 3, none⟩) hAO' _).set_ 0 _).set_ 1 _).set_ 2 _).far (p := ⟨Db, 0, none⟩) hOD _).alloc _).alloc _).drew
  · exact ((((((((((((unhide HD).far (p := ⟨Ab, 0, none⟩) hAD' _).far (p := ⟨Ab, 1, none⟩) hAD' _).far (p := ⟨Ab, 2, none⟩) hAD' _).far (p := ⟨Ab, 3, none⟩) hAD' _).far (p := ⟨Ob, 0, none⟩) hOD' _).far (p := ⟨Ob, 1, none⟩) hOD' _).far (p := ⟨Ob, 2, none⟩) hOD' _)).set_ 0 _).alloc _).alloc _).drew
theorem catch_idle (x y z : Value) (w : World) :
    CallsD Tryd.prog 119 #[x, y, z] .returning w fun e u' w' => e = .returned (.tuple #[]) ∧ u' = .returning ∧ w = w' := by
  refine callsD_of_wpS Tryd.func119 rfl fun c₀ cs hu => ?_
  simp only [Tryd.ntmps119, List.size_toArray, List.length_cons, List.length_nil, Nat.reduceAdd, Nat.reduceSub, Array.replicate_succ, Array.replicate_zero, List.push_toArray, List.append_toArray, List.nil_append, List.cons_append]
  apply wpS_seq
  apply wpS_region
  simp [wpOpsS, go_sem, recoverD, hu, Exit.thenS]
  refine wpS_of_wp ?_
  go_wp2
  exact ⟨rfl, .returning, by cases c₀; simp_all, .tuple #[], results_none rfl _ _ _, rfl, rfl, rfl⟩
end Go.Proofs.YtoefmncdloffaaaDoor


namespace Go.Proofs.YtoefmncdloffaaaDoor
open Go.RowKit
def runWorld (w : World) (lv : Value) : World :=
  ((((w.alloc (.cells #[lv] 56)).alloc (.cells #[.int .i64 0, .int .i64 0, .int .i64 0, .string { data := #[] }] 59)).alloc (.cells #[.string { data := #[] }, .int .i64 0, .int .i64 0] 61)).alloc (.cells #[.bool false] 4)).alloc (.cells #[.int .i64 0] 3)
theorem runWorld_facts (w : World) (lv : Value) (log : List Res) (hl : Reads w 2 lv log.length (logCells log)) :
    Ext w (runWorld w lv) ∧ (runWorld w lv).heap.size = w.heap.size + 5 ∧
    RunInv (w.heap.size + 1 + 1 + 1 + 1) w.heap.size lv log 0 (fun k => k = w.heap.size + 1 ∨ k = w.heap.size + 1 + 1 ∨ k = w.heap.size + 1 + 1 + 1) (runWorld w lv) ∧
    Blk (runWorld w lv) (w.heap.size + 1) 59 #[.int .i64 0, .int .i64 0, .int .i64 0, .string { data := #[] }] ∧
    Blk (runWorld w lv) (w.heap.size + 1 + 1) 61 #[.string { data := #[] }, .int .i64 0, .int .i64 0] ∧ Blk (runWorld w lv) (w.heap.size + 1 + 1 + 1) 4 #[.bool false] := by
  have hlt := fun k (hn : 0 < log.length) hk => hl.own_lt (by omega) hn k hk
  have hE : Ext w (runWorld w lv) := by
    unfold runWorld
    repeat' (first | (with_reducible exact Chg.refl _ _) | (with_reducible exact Ext.refl _) | (with_reducible assumption) | (with_reducible refine Chg.alloc ?_ _) | (with_reducible refine Chg.drew ?_) | (with_reducible refine Chg.drewN ?_ _) | (with_reducible refine Chg.setCell ?_ ?_ _) | (with_reducible refine Ext.alloc ?_ _) | (with_reducible refine Ext.drew ?_) | (with_reducible refine Ext.drewN ?_ _) | (with_reducible refine Ext.setCell ?_ ?_ _) | (simp; done) | (simp; omega) | omega)
  refine ⟨hE, by simp [runWorld], ⟨?_, ?_, hl.ext hE, by omega, ?_, by omega, ?_⟩, ?_, ?_, ?_⟩
  · exact Blk.new' _ _ _ (by simp)
  · exact ((((Blk.new w 56 #[lv]).alloc _).alloc _).alloc _).alloc _
  · intro hn hk
    have := hlt _ hn hk
    omega
  · rintro k hk
    refine ⟨by simp [runWorld]; omega, by omega, by omega, fun hn hk' => ?_⟩
    have := hlt _ hn hk'
    omega
  · exact (((Blk.new' _ _ _ (by simp)).alloc _).alloc _).alloc _
  · exact ((Blk.new' _ _ _ (by simp)).alloc _).alloc _
  · exact (Blk.new' _ _ _ (by simp)).alloc _
theorem run_results (tmps : Array Value) (w : World) (Ab Ob Db : Nat) (a0 a1 a2 a3 o0 o1 o2 d0 : Value) (h4 : tmps[4]?.getD undef = .pointer (some ⟨Ab, 0, none⟩)) (h5 : tmps[5]?.getD undef = .pointer (some ⟨Ob, 0, none⟩)) (h6 : tmps[6]?.getD undef = .pointer (some ⟨Db, 0, none⟩))
    (hA : Blk w Ab 59 #[a0, a1, a2, a3]) (hO : Blk w Ob 61 #[o0, o1, o2]) (hD : Blk w Db 4 #[d0]) :
    (results Tryd.f78 tmps).run Tryd.prog w = .ok (.tuple #[.agg #[a0, a1, a2, a3], .agg #[o0, o1, o2], d0]) w := by
  have a0 := hA.cell 0
  have a1 := hA.cell 1
  have a2 := hA.cell 2
  have a3 := hA.cell 3
  have o0 := hO.cell 0
  have o1 := hO.cell 1
  have o2 := hO.cell 2
  have d0 := hD.cell 0
  simp only [List.getElem?_toArray, List.getElem?_cons_zero, List.getElem?_cons_succ] at a0 a1 a2 a3 o0 o1 o2 d0
  simp [results, Tryd.results78, go_sem, h4, h5, h6, a0, a1, a2, a3, o0, o1, o2, d0]
set_option maxHeartbeats 1000000 in
theorem runO_any (G : Nat) (pc : Array Value) (lv : Value) (log : List Res) (p : Prg StO) (T : Nat → Prop) (w : World) (hl : Reads w 2 lv log.length (logCells log)) (hG : ∀ (args : Array Value) (w : World), (callFunc G args).run Tryd.prog w = .ok (.enter G args) w)
    (hp : ∀ w1, Ext w w1 → w1.heap.size = w.heap.size + 5 → RunInv (w.heap.size + 1 + 1 + 1 + 1) w.heap.size lv log 0 (fun k => k = w.heap.size + 1 ∨ k = w.heap.size + 1 + 1 ∨ k = w.heap.size + 1 + 1 + 1) w1 →
      Calls Tryd.prog G (#[.func (.func 118) #[] #[.pointer (some ⟨w.heap.size + 1 + 1 + 1 + 1, 0, none⟩), .pointer (some ⟨w.heap.size, 0, none⟩)]] ++ pc) w1 fun e w2 => Chg (fun k => k = w.heap.size + 1 + 1 + 1 + 1 ∨ (T k ∧ k < w.heap.size)) w1 w2 ∧
        ((∃ a i, p.run (replay log) 0 = .ok a i ∧ e = .returned (.agg #[.string a.content, .int .i64 a.seq, .int .i64 a.err])) ∨ ∃ c i, p.run (replay log) 0 = .error c i ∧ e = .panicked [{ v := pending c, recovered := false }])) :
    Calls Tryd.prog 78 #[.func (.func G) #[] pc, lv] w fun e w' => Chg T w w' ∧
      ((∃ a i, p.run (replay log) 0 = .ok a i ∧ e = .returned (.tuple #[.agg #[.int .i64 0, .int .i64 0, .int .i64 0, .string noBytes], .agg #[.string a.content, .int .i64 a.seq, .int .i64 a.err], .bool true])) ∨
       ∃ c i, p.run (replay log) 0 = .error c i ∧ e = .returned (.tuple #[c.v, .agg #[.string { data := #[] }, .int .i64 0, .int .i64 0], .bool false])) := by
  have hmf : ∀ (fn : Fn) (first cap : Array Value) (w : World), (Instr.makeFunc fn first cap).run Tryd.prog w = .ok (.func fn first cap) w := fun _ _ _ _ => rfl
  have HP := hide hp
  have HL := hide hl
  obtain ⟨_, B, c, rfl, hnc, hcm, _⟩ := hl
  clear hp hnc hcm
  go_enter_defers Tryd.func78, Tryd.ntmps78
  go_wp2_with fail
  obtain ⟨hE, hsz, hI, hBA, hBO, hBD⟩ := runWorld_facts w (.slice B log.length c) log (unhide HL)
  refine (unhide HP (runWorld w (.slice B log.length c)) hE hsz hI).mono ?_
  rintro e w1 ⟨h2, hq⟩
  have nA : ¬ (w.heap.size + 1 = w.heap.size + 1 + 1 + 1 + 1 ∨ (T (w.heap.size + 1) ∧ w.heap.size + 1 < w.heap.size)) := by rintro (h | ⟨_, h⟩) <;> omega
  have nO : ¬ (w.heap.size + 1 + 1 = w.heap.size + 1 + 1 + 1 + 1 ∨ (T (w.heap.size + 1 + 1) ∧ w.heap.size + 1 + 1 < w.heap.size)) := by rintro (h | ⟨_, h⟩) <;> omega
  have nD : ¬ (w.heap.size + 1 + 1 + 1 = w.heap.size + 1 + 1 + 1 + 1 ∨ (T (w.heap.size + 1 + 1 + 1) ∧ w.heap.size + 1 + 1 + 1 < w.heap.size)) := by rintro (h | ⟨_, h⟩) <;> omega
  rcases hq with ⟨⟨xc, xs, xe⟩, s, hr, rfl⟩ | ⟨a, s, hr, rfl⟩
  · have HR := hide hr
    have hA := hide (hBA.chg h2 nA)
    have hO := hide (hBO.chg h2 nO)
    have hD := hide (hBD.chg h2 nD)
    have hEx : Hid (Chg T w w1) := hide (hE.trans' h2 (fun _ _ h => h.elim) (fun i hi e => by rcases e with e | e; omega; exact e.1))
    have a0 := (unhide hA).cell 0
    have a1 := (unhide hA).cell 1
    have a2 := (unhide hA).cell 2
    have a3 := (unhide hA).cell 3
    have o0 := (unhide hO).cell 0
    have o1 := (unhide hO).cell 1
    have o2 := (unhide hO).cell 2
    have d0 := (unhide hD).cell 0
    simp only [List.getElem?_toArray, List.getElem?_cons_zero, List.getElem?_cons_succ] at a0 a1 a2 a3 o0 o1 o2 d0
    have fA := (unhide hA).frozen
    have fO := (unhide hO).frozen
    have fD := (unhide hD).frozen
    clear hr h2 hE hsz hI hBA hBO hBD HP
    go_wp2
    have e1 : ¬ w.heap.size + 1 = w.heap.size + 1 + 1 := by omega
    have e2 : ¬ w.heap.size + 1 = w.heap.size + 1 + 1 + 1 := by omega
    have e3 : ¬ w.heap.size + 1 + 1 = w.heap.size + 1 := by omega
    have e4 : ¬ w.heap.size + 1 + 1 = w.heap.size + 1 + 1 + 1 := by omega
    have e5 : ¬ w.heap.size + 1 + 1 + 1 = w.heap.size + 1 := by omega
    have e6 : ¬ w.heap.size + 1 + 1 + 1 = w.heap.size + 1 + 1 := by omega
    refine leaves_cons (f := 119) (args := #[.pointer (some ⟨w.heap.size + 1, 0, none⟩), .pointer (some ⟨w.heap.size + 1 + 1, 0, none⟩), .pointer (some ⟨w.heap.size + 1 + 1 + 1, 0, none⟩)]) (by simp) (by simp [go_sem]) ?_
    refine (catch_idle _ _ _ _).mono ?_
    rintro e u' w2 ⟨rfl, rfl, rfl⟩
    refine ⟨_, run_results _ _ (w.heap.size + 1) (w.heap.size + 1 + 1) (w.heap.size + 1 + 1 + 1) (.int .i64 0) (.int .i64 0) (.int .i64 0) (.string { data := #[] }) (.string xc) (.int .i64 xs) (.int .i64 xe) (.bool true) rfl rfl rfl ?_ ?_ ?_, ?_, ?_⟩
    · exact (((((((((unhide hA).set_ 0 _).set_ 1 _).set_ 2 _).set_ 3 _).far (p := ⟨w.heap.size + 1 + 1, 0, none⟩) e1 _).far (p := ⟨w.heap.size + 1 + 1, 1, none⟩) e1 _).far (p := ⟨w.heap.size + 1 + 1, 2, none⟩) e1 _)).far (p := ⟨w.heap.size + 1 + 1 + 1, 0, none⟩) e2 _
    · exact (((((((((unhide hO).far (p := ⟨w.heap.size + 1, 0, none⟩) e3 _).far (p := ⟨w.heap.size + 1, 1, none⟩) e3 _).far (p := ⟨w.heap.size + 1, 2, none⟩) e3 _).far (p := ⟨w.heap.size + 1, 3, none⟩) e3 _).set_ 0 _).set_ 1 _).set_ 2 _)).far (p := ⟨w.heap.size + 1 + 1 + 1, 0, none⟩) e4 _
    · exact (((((((((unhide hD).far (p := ⟨w.heap.size + 1, 0, none⟩) e5 _).far (p := ⟨w.heap.size + 1, 1, none⟩) e5 _).far (p := ⟨w.heap.size + 1, 2, none⟩) e5 _).far (p := ⟨w.heap.size + 1, 3, none⟩) e5 _).far (p := ⟨w.heap.size + 1 + 1, 0, none⟩) e6 _).far (p := ⟨w.heap.size + 1 + 1, 1, none⟩) e6 _).far (p := ⟨w.heap.size + 1 + 1, 2, none⟩) e6 _)).set_ 0 _
    · have hx := unhide hEx
      repeat' (first | (with_reducible exact Chg.refl _ _) | (with_reducible exact Ext.refl _) | (with_reducible assumption) | (with_reducible refine Chg.alloc ?_ _) | (with_reducible refine Chg.drew ?_) | (with_reducible refine Chg.drewN ?_ _) | (with_reducible refine Chg.setCell ?_ ?_ _) | (with_reducible refine Ext.alloc ?_ _) | (with_reducible refine Ext.drew ?_) | (with_reducible refine Ext.drewN ?_ _) | (with_reducible refine Ext.setCell ?_ ?_ _) | (simp; done) | (simp; omega) | omega)
    · exact .inl ⟨_, s, unhide HR, rfl⟩
  · have HR := hide hr
    have hA := hide (hBA.chg h2 nA)
    have hO := hide (hBO.chg h2 nO)
    have hD := hide (hBD.chg h2 nD)
    have hEx : Hid (Chg T w w1) := hide (hE.trans' h2 (fun _ _ h => h.elim) (fun i hi e => by rcases e with e | e; omega; exact e.1))
    clear hr h2 hE hsz hI hBA hBO hBD HP
    go_wp2
    refine leaves_cons (f := 119) (args := #[.pointer (some ⟨w.heap.size + 1, 0, none⟩), .pointer (some ⟨w.heap.size + 1 + 1, 0, none⟩), .pointer (some ⟨w.heap.size + 1 + 1 + 1, 0, none⟩)]) (by simp) (by simp [go_sem]) ?_
    refine (catch_panicking _ _ _ a _ _ _ _ _ _ _ _ [] _ (unhide hA) (unhide hO) (unhide hD) (by omega) (by omega) (by omega)).mono ?_
    rintro e u' w2 ⟨rfl, rfl, hc, hA', hO', hD'⟩
    refine ⟨_, run_results _ _ _ _ _ _ _ _ _ _ _ _ _ rfl rfl rfl hA' hO' hD', ?_, ?_⟩
    rotate_left 1
    · exact .inr ⟨a, s, unhide HR, rfl⟩
    · exact (unhide hEx).trans' hc (fun _ _ h => h) (fun i hi e => by rcases e with e | e | e <;> omega)
end Go.Proofs.YtoefmncdloffaaaDoor


namespace Go.Proofs.YtoefmncdloffaaaDoor.Pv
open Go.RowKit
def logO (log : List Res) : List Acc → Option Res := fun l => match l.length with
  | 0 => none
  | n + 1 => log[n]?
theorem logO_snoc (log : List Res) (l : List Acc) (c : Acc) : logO log (l ++ [c]) = log[l.length]? := by
  unfold logO
  rw [List.length_append]
  rfl
theorem replay_some {log : List Res} {a : Acc} {i : Nat} {r : Res} (h : log[i]? = some r) : replay log a i = .ok r (i + 1) := by unfold replay; rw [h]
theorem replay_none {log : List Res} {a : Acc} {i : Nat} (h : log[i]? = none) : replay log a i = .error a i := by unfold replay; rw [h]
theorem go_replay {α : Type} (log : List Res) (p : Prg α) : ∀ l : List Acc, l.length ≤ log.length →
    ((go (logO log) p l).2.length ≤ log.length → p.run (replay log) l.length = .ok (go (logO log) p l).1 (go (logO log) p l).2.length) ∧
    (∀ l' c, l' ++ [c] <+: (go (logO log) p l).2 → l <+: l' → l'.length = log.length → p.run (replay log) l.length = .error c log.length) := by
  induction p with
  | ret a =>
    refine fun l hl => ⟨fun _ => rfl, fun l' c h1 h2 h3 => ?_⟩
    have h4 := h1.length_le
    have h5 := h2.length_le
    rw [List.length_append, List.length_singleton] at h4
    have h6 : (go (logO log) (Prg.ret a) l).2 = l := rfl
    rw [h6] at h4
    omega
  | ask a k ih =>
    intro l hl
    rw [go_ask]
    have hpre := go_pre (logO log) (k (ans (logO log) (l ++ [a]))) (l ++ [a])
    have hlen : (l ++ [a]).length = l.length + 1 := by simp
    cases hr : log[l.length]? with
    | some r =>
      have hlt : l.length < log.length := (List.getElem?_eq_some_iff.1 hr).1
      have ha : ans (logO log) (l ++ [a]) = r := by unfold ans; rw [logO_snoc, hr]; rfl
      rw [ha] at hpre ⊢
      obtain ⟨i1, i2⟩ := ih r (l ++ [a]) (by omega)
      rw [hlen] at i1 i2
      have hrun : (Prg.ask a k).run (replay log) l.length = (k r).run (replay log) (l.length + 1) := by
        simp only [Prg.run, replay_some hr]
      rw [hrun]
      refine ⟨i1, fun l' c h1 h2 h3 => i2 l' c h1 ?_ h3⟩
      exact List.prefix_of_prefix_length_le hpre ((List.prefix_append l' [c]).trans h1) (by rw [hlen]; omega)
    | none =>
      have hge : log.length ≤ l.length := List.getElem?_eq_none_iff.1 hr
      have hrun : (Prg.ask a k).run (replay log) l.length = .error a l.length := by
        simp only [Prg.run, replay_none hr]
      refine ⟨fun h => ?_, fun l' c h1 h2 h3 => ?_⟩
      · have := hpre.length_le
        rw [hlen] at this
        omega
      · have hll : l' = l := (h2.eq_of_length (by omega)).symm
        subst hll
        have := List.prefix_of_prefix_length_le h1 hpre (by simp)
        have h4 := this.eq_of_length (by simp)
        have h5 : c = a := by simpa using h4
        rw [hrun, h5, h3]
def runD (A L : Nat) (lv : Value) (log : List Res) : Dv where
  hd := .func (.func 118) #[] #[.pointer (some ⟨A, 0, none⟩), .pointer (some ⟨L, 0, none⟩)]
  O := logO log
  S := fun k => k = A
  inv := fun l X w => RunInv A L lv log l.length X w
  pan := fun l _ _ chain => ∃ l' c, l = l' ++ [c] ∧ l'.length ≤ log.length ∧ chain = [{ v := pending c, recovered := false }]
  one := rfl
  noBlk := rfl
  notS := fun _ _ _ b h hb => (h.mine b hb).2.1
  grow := fun l X Y w w' h hc hY => by
    have h' := h.chg hc
    refine ⟨h'.at_, h'.logv, h'.reads, h'.ne, h'.own, h'.le, fun k hk => ?_⟩
    rcases hY k hk with hx | ⟨h1, h2⟩
    · exact h'.mine k hx
    · have h3 := lt_of_heap h.at_
      have h4 := lt_of_heap h.logv
      refine ⟨h2, by omega, by omega, fun hn hk' => ?_⟩
      have := h.reads.own_lt (by omega) hn k hk'
      omega
theorem runD_step (A L : Nat) (lv : Value) (log : List Res) : DvStep Tryd.prog (runD A L lv log) := fun l X w h => by
  refine ⟨_, _, rfl, (fun args w => by kernel_rfl), fun c => ?_⟩
  refine (run_do A L lv log c l.length X w h _ rfl).mono ?_
  intro e w' hp
  cases hr : log[l.length]? with
  | some r =>
    obtain ⟨h1, h2, h3⟩ := hp.of_ok (replay_some hr)
    refine ⟨h3, .inl ⟨r, ?_, h1, ?_⟩⟩
    · exact (logO_snoc log l c).trans hr
    · show RunInv A L lv log (l ++ [c]).length X w'
      rw [List.length_append]
      exact h2
  | none =>
    obtain ⟨h1, h2, h3⟩ := hp.of_err (replay_none hr)
    exact ⟨h3, .inr ⟨_, (logO_snoc log l c).trans hr, h1, l, c, rfl, h.le, rfl⟩⟩
end Go.Proofs.YtoefmncdloffaaaDoor.Pv
