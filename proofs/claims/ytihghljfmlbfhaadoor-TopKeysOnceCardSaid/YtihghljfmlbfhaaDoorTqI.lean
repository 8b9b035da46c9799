/-
  Several texts in one file: each has its own heading below.
-/
import Derived.Test.YtihghljfmlbfhaaDoorTqH
import Derived.Test.YtihghljfmlbfhaaDoorTqG
import Derived.Test.YtihghljfmlbfhaaDoorTqE
import Derived.Test.YtihghljfmlbfhaaDoorTqF
import Derived.Test.YtihghljfmlbfhaaDoorCards
import Derived.Test.YtihghljfmlbfhaaDoorTie
import Derived.WalkKit
import Derived.ProofKit
import Derived.OpenShut
import Derived.ShutString
import Derived.ChangeOld
import Derived.Lib.SmallJoins
import Derived.Deep.Slices
import Derived.Deep.DeepHandedRow
import Derived.Lib.LaidTab
import Derived.Stop.LaidErr
import Derived.Laws.Bits128


namespace Go.Proofs.YtihghljfmlbfhaaDoor
open Go.RowKit
theorem take_eq (l : List (List UInt8)) (k : Nat) : (l.drop 0).take k = l.take k := by rw [List.drop_zero]
theorem drop_eq (l : List (List UInt8)) (k : Nat) : (l.drop k).take (l.length - k) = l.drop k := by rw [List.take_of_length_le (by rw [List.length_drop]; omega)]
theorem Digs.one {w : World} {v : Value} {d : List UInt8} (h : Digs w v [d]) : ∃ b o c, v = .slice (some ⟨b, o, none⟩) 1 c ∧ b < w.heap.size ∧ w.rangeAt b o (d.map u8v) := by
  obtain ⟨b, o, c, h1, _, _, h2, h3⟩ := h.at (k := 0) (by simp)
  exact ⟨b, o, c, h1, h2, by simpa using h3⟩
theorem Digs.parts {w : World} {v : Value} {ds : List (List UInt8)} (h : Digs w v ds) (hn : 1 < ds.length) {k : Nat} (h1 : 0 < k) (h2 : k < ds.length) : ∃ b o c, v = .slice (some ⟨b, o, none⟩) ds.length c ∧ ds.length ≤ c ∧ c ≤ maxLen ∧ b < w.heap.size ∧
    (∀ c', k ≤ c' → c' ≤ maxLen → Digs w (.slice (some ⟨b, o, none⟩) k c') (ds.take k)) ∧ (∀ c', ds.length - k ≤ c' → c' ≤ maxLen → Digs w (.slice (some ⟨b, o + k * 16, none⟩) (ds.length - k) c') (ds.drop k)) := by
  obtain ⟨b, o, c, rfl, hc1, hc2, hb, _⟩ := h.at (k := 0) (by omega)
  refine ⟨b, o, c, rfl, hc1, hc2, hb, fun c' h3 h4 => ?_, fun c' h3 h4 => ?_⟩
  · obtain ⟨b', o', c2, e, hD⟩ := h.sub 0 k c' (by omega) h1 h3 h4
    cases e
    rw [take_eq, Nat.zero_mul, Nat.add_zero] at hD
    exact hD
  · obtain ⟨b', o', c2, e, hD⟩ := h.sub k (ds.length - k) c' (by omega) (by omega) h3 h4
    cases e
    rw [drop_eq] at hD
    exact hD
set_option maxRecDepth 100000 in
set_option maxHeartbeats 4000000 in
theorem root_any (N : Nat) : ∀ (ds : List (List UInt8)) (v : Value) (w : World), ShaMem w → ds.length ≤ N → ds.length ≤ 100000 → Digs w v ds →
    Calls Tryd.prog 12 #[v] w fun e w' => e = .returned (.agg ((rootS ds).map u8v).toArray) ∧ Ext w w' := by
  induction N with
  | zero =>
    intro ds v w hM hN _ hD
    obtain rfl : ds = [] := List.eq_nil_of_length_eq_zero (by omega)
    obtain ⟨A, c, rfl, _, _⟩ := hD.form
    have HG := hide (fun (W : World) (hE : Ext w W) => digest_any 1 [] (.slice none 0 0) W (hM.ext hE) (Parts.nil W) (by simp) (fun p hp => by cases hp))
    have HR := hide (And.intro (show digestS 1 [] = rootS [] from rfl) (rootS_length []))
    obtain ⟨res, hres⟩ : ∃ x, rootS [] = x := ⟨_, rfl⟩
    rw [hres] at HR ⊢
    clear hres hD
    go_enter Tryd.func12, Tryd.ntmps12
    go_wp2_with (first
      | (go_at_call 18; refine (unhide HG _ ((Ext.refl w).alloc _)).mono ?_; rintro e w5 ⟨rfl, hE5⟩; rw [(unhide HR).1]; have H5 := hide (And.intro (((Ext.refl w).alloc _).trans hE5) ((Blk.new w 23 (Array.replicate 16 (.int .u8 0))).ext hE5)); clear hE5)
      | (refine wpList_storeB (ty := 23) (t := 23) (x := .tmp 2) (y := .tmp 24) rfl rfl digest_wide rfl rfl (unhide H5).2 rfl (by simpa using (unhide HR).2) (bytes_one _) ?_; intro w7 hb7 hc7 hz7; have H7 := hide (And.intro hb7 hc7); clear hb7 hc7 hz7))
    refine bodyPost_ret (v := .agg (res.map u8v).toArray) (results_blk digest_wide rfl (unhide H7).1 (by simpa using (unhide HR).2) rfl) rfl ⟨rfl, ?_⟩
    exact (unhide H5).1.trans' (unhide H7).2 (fun _ _ h => h) (fun i hi e => by omega)
  | succ N ih =>
    intro ds v w hM hN h5 hD
    rcases (by omega : ds.length = 0 ∨ ds.length = 1 ∨ 1 < ds.length) with h | h | h
    · obtain rfl : ds = [] := List.eq_nil_of_length_eq_zero h
      obtain ⟨A, c, rfl, _, _⟩ := hD.form
      have HG := hide (fun (W : World) (hE : Ext w W) => digest_any 1 [] (.slice none 0 0) W (hM.ext hE) (Parts.nil W) (by simp) (fun p hp => by cases hp))
      have HR := hide (And.intro (show digestS 1 [] = rootS [] from rfl) (rootS_length []))
      obtain ⟨res, hres⟩ : ∃ x, rootS [] = x := ⟨_, rfl⟩
      rw [hres] at HR ⊢
      clear hres hD ih
      go_enter Tryd.func12, Tryd.ntmps12
      go_wp2_with (first
        | (go_at_call 18; refine (unhide HG _ ((Ext.refl w).alloc _)).mono ?_; rintro e w5 ⟨rfl, hE5⟩; rw [(unhide HR).1]; have H5 := hide (And.intro (((Ext.refl w).alloc _).trans hE5) ((Blk.new w 23 (Array.replicate 16 (.int .u8 0))).ext hE5)); clear hE5)
        | (refine wpList_storeB (ty := 23) (t := 23) (x := .tmp 2) (y := .tmp 24) rfl rfl digest_wide rfl rfl (unhide H5).2 rfl (by simpa using (unhide HR).2) (bytes_one _) ?_; intro w7 hb7 hc7 hz7; have H7 := hide (And.intro hb7 hc7); clear hb7 hc7 hz7))
      refine bodyPost_ret (v := .agg (res.map u8v).toArray) (results_blk digest_wide rfl (unhide H7).1 (by simpa using (unhide HR).2) rfl) rfl ⟨rfl, ?_⟩
      exact (unhide H5).1.trans' (unhide H7).2 (fun _ _ h => h) (fun i hi e => by omega)
    · obtain ⟨d, rfl⟩ : ∃ d, ds = [d] := by
        match ds, h with
        | [d], _ => exact ⟨d, rfl⟩
      have hd : d.length = 16 := hD.1 d (by simp)
      obtain ⟨b, o, c, rfl, hb, hR⟩ := hD.one
      have HG := hide (fun (W : World) (hE : Ext w W) => leaf_any d W (hM.ext hE) hd)
      have HR := hide (And.intro (rootS_one d) (rootS_length [d]))
      obtain ⟨res, hres⟩ : ∃ x, rootS [d] = x := ⟨_, rfl⟩
      rw [hres] at HR ⊢
      obtain ⟨cs, hcs⟩ : ∃ x, d.map u8v = x := ⟨_, rfl⟩
      have hcl : cs.length = 16 := by rw [← hcs]; simpa using hd
      rw [hcs] at HG hR
      have HA := hide (rangeAt_ext hR ((Ext.refl w).alloc (.cells (Array.replicate 16 (.int .u8 0)) 23)))
      clear hres hD ih hcs hR
      go_enter Tryd.func12, Tryd.ntmps12
      go_wp2_with (first
        | (refine wpList_loadMG (by rfl) (ty := 23) (x := .tmp 28) rfl digest_wide rfl (unhide HA) hcl ?_)
        | (go_at_call 19; refine (unhide HG _ ((Ext.refl w).alloc _)).mono ?_; rintro e w5 ⟨rfl, hE5⟩; rw [← (unhide HR).1]; have H5 := hide (And.intro (((Ext.refl w).alloc _).trans hE5) ((Blk.new w 23 (Array.replicate 16 (.int .u8 0))).ext hE5)); clear hE5)
        | (refine wpList_storeB (ty := 23) (t := 23) (x := .tmp 2) (y := .tmp 30) rfl rfl digest_wide rfl rfl (unhide H5).2 rfl (by simpa using (unhide HR).2) (bytes_one _) ?_; intro w7 hb7 hc7 hz7; have H7 := hide (And.intro hb7 hc7); clear hb7 hc7 hz7))
      refine bodyPost_ret (v := .agg (res.map u8v).toArray) (results_blk digest_wide rfl (unhide H7).1 (by simpa using (unhide HR).2) rfl) rfl ⟨rfl, ?_⟩
      exact (unhide H5).1.trans' (unhide H7).2 (fun _ _ h => h) (fun i hi e => by omega)
    · have hb := splitS_bounds ds.length h
      have HSp := hide (fun W => split_any ds.length W h (by omega))
      obtain ⟨b, o, c, rfl, hc1, hc2, hbl, hL, hRt⟩ := hD.parts h hb.1 hb.2
      have e16 : 16 = 16 := rfl
      have hll : (ds.take (splitS ds.length)).length = splitS ds.length := by rw [List.length_take]; omega
      have hrl : (ds.drop (splitS ds.length)).length = ds.length - splitS ds.length := by rw [List.length_drop]
      have HA := hide (fun (W : World) (hE : Ext w W) => ih (ds.take (splitS ds.length)) (.slice (some ⟨b, o, none⟩) (splitS ds.length) (splitS ds.length)) W (hM.ext hE) (by omega) (by omega) ((hL (splitS ds.length) (by omega) (by omega)).ext hE))
      have HB := hide (fun (W : World) (hE : Ext w W) => ih (ds.drop (splitS ds.length)) (.slice (some ⟨b, o + splitS ds.length * 16, none⟩) (ds.length - splitS ds.length) (ds.length - splitS ds.length)) W (hM.ext hE) (by omega) (by omega) ((hRt (ds.length - splitS ds.length) (by omega) (by omega)).ext hE))
      have HN := hide (fun (W : World) (hE : Ext w W) => node_any (rootS (ds.take (splitS ds.length))) (rootS (ds.drop (splitS ds.length))) W (hM.ext hE) (rootS_length _) (rootS_length _))
      have HR := hide (And.intro (rootS_two ds h) (rootS_length ds))
      obtain ⟨res, hres⟩ : ∃ x, rootS ds = x := ⟨_, rfl⟩
      rw [hres] at HR ⊢
      generalize splitS ds.length = k at *
      generalize rootS (ds.take k) = ra at *
      generalize rootS (ds.drop k) = rb at *
      generalize ds.length = n at *
      unfold maxLen at hc2
      have hk1 : k ≤ n := by omega
      have hk2 : k ≤ c := by omega
      have hk3 : ¬ n = k := by omega
      have hk4 : ¬ c = k := by omega
      clear hres hD ih hL hRt hll hrl
      go_enter Tryd.func12, Tryd.ntmps12
      go_upto_region 4 with (go_at_call 20; refine (unhide HSp _).mono ?_; rintro e w1 ⟨rfl, rfl⟩)
      refine wp_region_held_drew (S := fun _ => True) (by kernel_rfl) trivial (fun hHeld => ?_)
      refine wpAnyH_take (i := 0) (oi := _) (v := ?_) rfl (by kernel_rfl) (by kernel_rfl) (by kernel_rfl) (fun _ _ _ h => h) (Or.inl ⟨by rfl, fun wz hSz => ?_⟩) (by assumption) ?_
      rotate_left
      · (first | (go_simp; done) | (go_simp; with_reducible rfl))
      try simp only [Act.put, List.setIfInBounds_toArray, List.set_cons_zero, List.set_cons_succ, List.getElem_toArray, List.getElem_cons_zero]
      refine wpAnyH_take (i := 1) (oi := _) (v := ?_) rfl (by kernel_rfl) (by kernel_rfl) (by kernel_rfl) (fun _ _ _ h => h) (Or.inl ⟨by rfl, fun wz hSz => ?_⟩) (by assumption) ?_
      rotate_left
      · (first | (go_simp; done) | (go_simp; with_reducible rfl))
      try simp only [Act.put, List.setIfInBounds_toArray, List.set_cons_zero, List.set_cons_succ, List.getElem_toArray, List.getElem_cons_succ, List.getElem_cons_zero]
      refine wpAnyH_take (i := 2) (oi := _) (v := ?_) rfl (by kernel_rfl) (by kernel_rfl) (by kernel_rfl) (fun _ _ _ h => h) (Or.inl ⟨by rfl, fun wz hSz => ?_⟩) (by assumption) ?_
      rotate_left
      · (first | (go_simp; done) | (go_simp; with_reducible rfl))
      try simp only [Act.put, List.setIfInBounds_toArray, List.set_cons_zero, List.set_cons_succ, List.getElem_toArray, List.getElem_cons_succ, List.getElem_cons_zero]
      refine wpAnyH_take (i := 3) (oi := _) (v := ?_) rfl (by kernel_rfl) (by kernel_rfl) (by kernel_rfl) (fun _ _ _ h => h) (Or.inl ⟨by rfl, fun wz hSz => ?_⟩) (by assumption) ?_
      rotate_left
      · (first | (go_simp; done) | (go_simp; with_reducible rfl))
      try simp only [Act.put, List.setIfInBounds_toArray, List.set_cons_zero, List.set_cons_succ, List.getElem_toArray, List.getElem_cons_succ, List.getElem_cons_zero]
      refine wpAnyH_take (i := 5) (oi := _) (v := ?_) rfl (by kernel_rfl) (by kernel_rfl) (by kernel_rfl) (fun _ _ _ h => h) (Or.inl ⟨by rfl, fun wz hSz => ?_⟩) (by assumption) ?_
      rotate_left
      · (first | (go_simp; done) | (go_simp; with_reducible rfl))
      try simp only [Act.put, List.setIfInBounds_toArray, List.set_cons_zero, List.set_cons_succ, List.getElem_toArray, List.getElem_cons_succ, List.getElem_cons_zero]
      refine wpAnyH_take (i := 6) (oi := _) (v := ?_) rfl (by kernel_rfl) (by kernel_rfl) (by kernel_rfl) (fun _ _ _ h => h) (Or.inl ⟨by rfl, fun wz hSz => ?_⟩) (by assumption) ?_
      rotate_left
      · (first | (go_simp; done) | (go_simp; with_reducible rfl))
      try simp only [Act.put, List.setIfInBounds_toArray, List.set_cons_zero, List.set_cons_succ, List.getElem_toArray, List.getElem_cons_succ, List.getElem_cons_zero]
      refine wpAnyH_take (i := 7) (oi := _) (v := ?_) rfl (by kernel_rfl) (by kernel_rfl) (by kernel_rfl) (fun _ _ _ h => h) (Or.inl ⟨by rfl, fun wz hSz => ?_⟩) (by assumption) ?_
      rotate_left
      · (first | (go_simp; done) | (go_simp; with_reducible rfl))
      try simp only [Act.put, List.setIfInBounds_toArray, List.set_cons_zero, List.set_cons_succ, List.getElem_toArray, List.getElem_cons_succ, List.getElem_cons_zero]
      refine wpAnyH_take (i := 8) (oi := _) (v := ?_) rfl (by kernel_rfl) (by kernel_rfl) (by kernel_rfl) (fun _ _ _ h => h) (Or.inl ⟨by rfl, fun wz hSz => ?_⟩) (by assumption) ?_
      rotate_left
      · (first | (go_simp; done) | (go_simp; with_reducible rfl))
      try simp only [Act.put, List.setIfInBounds_toArray, List.set_cons_zero, List.set_cons_succ, List.getElem_toArray, List.getElem_cons_succ, List.getElem_cons_zero]
      refine wpAnyH_take (i := 9) (oi := _) (v := ?_) rfl (by kernel_rfl) (by kernel_rfl) (by kernel_rfl) (fun _ _ _ h => h) (Or.inl ⟨by rfl, fun wz hSz => ?_⟩) (by assumption) ?_
      rotate_left
      · (first | (go_simp; done) | (go_simp; with_reducible rfl))
      try simp only [Act.put, List.setIfInBounds_toArray, List.set_cons_zero, List.set_cons_succ, List.getElem_toArray, List.getElem_cons_succ, List.getElem_cons_zero]
      refine wpAnyH_ready (rs := [4]) (by kernel_rfl) (by simp) (AllReadyH.cons (o := _) rfl (fun K hK => ?_) AllReadyH.nil)
      try go_simp
      (refine (unhide HA _ (((Ext.refl w).alloc _).drew)).mono ?_; rintro e w3 ⟨rfl, hE3⟩; have H3 := hide (And.intro ((((Ext.refl w).alloc _).drew).trans hE3) (((Blk.new w 23 (Array.replicate 16 (.int .u8 0))).drew).ext hE3)); have hS : True := trivial; clear hHeld hE3)
      refine hK.out _ _ ?_ (fun hHeld => ?_)
      · exact hS
      clear hK K
      try simp only [Act.put, List.setIfInBounds_toArray, List.set_cons_zero, List.set_cons_succ, List.getElem_toArray, List.getElem_cons_succ, List.getElem_cons_zero]
      refine wpAnyH_ready (rs := [10]) (by kernel_rfl) (by simp) (AllReadyH.cons (o := _) rfl (fun K hK => ?_) AllReadyH.nil)
      try go_simp
      (refine (unhide HB _ (unhide H3).1).mono ?_; rintro e w4 ⟨rfl, hE4⟩; have H4 := hide (And.intro ((unhide H3).1.trans hE4) ((unhide H3).2.ext hE4)); have hS : True := trivial; clear hHeld hE4 H3)
      refine hK.out _ _ ?_ (fun hHeld => ?_)
      · exact hS
      clear hK K
      try simp only [Act.put, List.setIfInBounds_toArray, List.set_cons_zero, List.set_cons_succ, List.getElem_toArray, List.getElem_cons_succ, List.getElem_cons_zero]
      refine wpAnyH_ready (rs := [11]) (by kernel_rfl) (by simp) (AllReadyH.cons (o := _) rfl (fun K hK => ?_) AllReadyH.nil)
      try go_simp
      (refine (unhide HN _ (unhide H4).1).mono ?_; rintro e w5 ⟨rfl, hE5⟩; rw [← (unhide HR).1]; have H5 := hide (And.intro ((unhide H4).1.trans hE5) ((unhide H4).2.ext hE5)); have hS : True := trivial; clear hHeld hE5 H4)
      refine hK.out _ _ ?_ (fun hHeld => ?_)
      · exact hS
      clear hK K
      try simp only [Act.put, List.setIfInBounds_toArray, List.set_cons_zero, List.set_cons_succ, List.getElem_toArray, List.getElem_cons_succ, List.getElem_cons_zero]
      refine wpAnyH_ready (rs := [12]) (by kernel_rfl) (by simp) (AllReadyH.cons (o := _) rfl (fun K hK => ?_) AllReadyH.nil)
      (refine step_storeB (ty := 23) (t := 23) (x := .tmp 2) (y := .tmp 21) rfl rfl digest_wide rfl rfl (unhide H5).2 rfl (by simpa using (unhide HR).2) (bytes_one _) ?_; intro w7 hb7 hc7 hz7; have H7 := hide (And.intro hb7 (Chg.trans' (unhide H5).1 hc7 (fun _ _ h => h) (fun i hi e => by omega))); have hS : True := trivial; clear hHeld hb7 hc7 hz7)
      refine hK.out _ _ ?_ (fun hHeld => ?_)
      · exact hS
      clear hK K
      try simp only [Act.put, List.getElem_toArray, List.getElem_cons_succ, List.getElem_cons_zero]
      refine wpAnyH_done (by kernel_rfl) ?_ _
      go_wp2
      refine bodyPost_ret (v := .agg (res.map u8v).toArray) (results_blk digest_wide rfl (unhide H7).1 (by simpa using (unhide HR).2) rfl) rfl ⟨rfl, ?_⟩
      exact (unhide H7).2
end Go.Proofs.YtihghljfmlbfhaaDoor


namespace Go.Proofs.YtihghljfmlbfhaaDoor.Pv
open Go.RowKit
theorem u8w_v : u8w = u8v := rfl
theorem rl_bytes {C : Ctx} {k : Nat} {bs : List UInt8} {cs : Array Value} (h : RL C [.bs k bs] cs.toList) : bs.length = k ∧ cs = (bs.map u8v).toArray := by
  obtain ⟨h1, h2⟩ := h.bs1
  exact ⟨h1, by apply Array.ext'; simpa [u8w_v] using h2⟩
theorem rv_dig {C : Ctx} {k : Nat} {bs : List UInt8} {v : Value} (h : RV C (.w (.agg [.bs k bs])) v) : bs.length = k ∧ v = .agg (bs.map u8v).toArray := by
  cases h with
  | w h => cases h with
    | agg h =>
      obtain ⟨h1, h2⟩ := rl_bytes h
      exact ⟨h1, by rw [h2]⟩
theorem rv_of_dig {C : Ctx} {bs : List UInt8} {k : Nat} (h : bs.length = k) : RV C (.w (.agg [.bs k bs])) (.agg (bs.map u8v).toArray) :=
  .w (.agg (by simpa [u8w_v] using RL.cons (R.bs (C := C) h) RL.nil))
section
variable {A : Amb} {s : St} {a : Act} {w : World} {env : Env} {F : Option Bool → PV → Wr → Prop}
def digAt : List PC → List UInt8
  | [.bs _ l] => l
  | _ => []
def isDig : List PC → Bool
  | [.bs n _] => Nat.beq n 16
  | _ => false
def digF (l : List (List UInt8)) : Nat → List PC := fun i => [.bs 16 (l.getD i [])]
def rowD (len : Nat) (f : Nat → List PC) : List (List UInt8) := (List.range len).map fun i => digAt (f i)
def IsDRow (len : Nat) (f : Nat → List PC) : Prop := ∀ i, i < len → isDig (f i) = true
theorem rowD_length (n : Nat) (f : Nat → List PC) : (rowD n f).length = n := by simp [rowD]
@[simp] theorem isDRow_digF (n : Nat) (l : List (List UInt8)) : IsDRow n (digF l) := fun _ _ => rfl
@[simp] theorem rowD_digF (l : List (List UInt8)) : rowD l.length (digF l) = l := by
  apply List.ext_getElem (rowD_length _ _)
  intro i h1 h2
  simp only [rowD, List.getElem_map, List.getElem_range, digF, digAt]
  rw [List.getD_eq_getElem?_getD, List.getElem?_eq_getElem h2]
  rfl
theorem drow_cells {C : Ctx} {len : Nat} {f : Nat → List PC} {vs : List Value} (hl : vs.length = len * 16) (h : ∀ i, i < len → RL C (f i) ((vs.drop (i * 16)).take 16)) (hb : IsDRow len f) : vs = dcells (rowD len f) ∧ D16 (rowD len f) := by
  have key : ∀ i, i < len → (vs.drop (i * 16)).take 16 = (digAt (f i)).map u8v ∧ (digAt (f i)).length = 16 := by
    intro i hi
    have h1 := h i hi
    have h2 := hb i hi
    generalize f i = c at h1 h2
    unfold isDig at h2
    split at h2
    · obtain ⟨h3, h4⟩ := h1.bs1
      rw [beqT h2] at h3
      exact ⟨h4, h3⟩
    · cases h2
  have hD : D16 (rowD len f) := by
    intro d hd
    obtain ⟨i, hi, rfl⟩ := List.mem_map.1 hd
    exact (key i (List.mem_range.1 hi)).2
  refine ⟨?_, hD⟩
  have : ∀ n, n ≤ len → vs.take (n * 16) = dcells (rowD n f) := by
    intro n
    induction n with
    | zero => intro _; simp [rowD, dcells]
    | succ n ih =>
      intro hn
      have e1 : rowD (n + 1) f = rowD n f ++ [digAt (f n)] := by simp [rowD, List.range_succ]
      rw [e1, dcells, List.flatMap_append]
      have e2 : vs.take ((n + 1) * 16) = vs.take (n * 16) ++ (vs.drop (n * 16)).take 16 := by
        rw [show (n + 1) * 16 = n * 16 + 16 from by omega, List.take_add]
      rw [e2, ih (by omega), (key n (by omega)).1]
      simp [dcells]
  have h1 := this len (Nat.le_refl _)
  rwa [← hl, List.take_length] at h1
end
end Go.Proofs.YtihghljfmlbfhaaDoor.Pv


namespace Go.Proofs.YtihghljfmlbfhaaDoor.Pv
open Go.RowKit
theorem specs_of {P : Program} {I : World → Prop} {l : List (Nat × Spec)} (h : ∀ p ∈ l, SpecOk P I p.1 p.2) : SpecsOk P I (find l) := by
  intro f sp hf
  induction l with
  | nil => cases hf
  | cons p l ih =>
    by_cases hp : p.1 = f
    · obtain ⟨f', sp'⟩ := p
      subst hp
      rw [find_cons_eq] at hf
      cases hf
      exact h _ List.mem_cons_self
    · obtain ⟨f', sp'⟩ := p
      rw [find_cons_ne _ _ hp] at hf
      exact ih (fun q hq => h q (List.mem_cons_of_mem _ hq)) hf
theorem mixed_ : Tryd.prog.follows .mixedOrders = true := by kernel_rfl
theorem sha_ext : ∀ w w', Ext w w' → ShaMem w → ShaMem w' := fun _ _ h hi => hi.ext h
theorem getD_map_range {α : Type} [Inhabited α] (n i : Nat) (g : Nat → α) (h : i < n) (d : α) : ((List.range n).map g).getD i d = g i := by
  rw [List.getD_eq_getElem?_getD, List.getElem?_map, List.getElem?_range h]; rfl
def intF (l : List Int) : Nat → List PC := fun i => [.lit (.int .i64 (l.getD i 0))]
def intOf : List PC → Int
  | [.lit (.int _ n)] => n
  | _ => 0
def isInt : List PC → Bool
  | [.lit (.int .i64 _)] => true
  | _ => false
def rowInt (n : Nat) (f : Nat → List PC) : List Int := (List.range n).map fun i => intOf (f i)
def IsIntRow (n : Nat) (f : Nat → List PC) : Prop := ∀ i, i < n → isInt (f i) = true
theorem isInt_ok {l : List PC} (h : isInt l = true) : l = [.lit (.int .i64 (intOf l))] := by
  unfold isInt at h
  split at h
  · rfl
  · cases h
@[simp] theorem rowInt_length (n : Nat) (f : Nat → List PC) : (rowInt n f).length = n := by simp [rowInt]
theorem intF_row {n : Nat} {f : Nat → List PC} (h : IsIntRow n f) : ∀ i, i < n → f i = intF (rowInt n f) i := fun i hi => by
  unfold intF rowInt
  rw [getD_map_range n i _ hi]
  exact isInt_ok (h i hi)
@[simp] theorem isIntRow_intF (n : Nat) (l : List Int) : IsIntRow n (intF l) := fun _ _ => rfl
@[simp] theorem rowInt_intF (l : List Int) : rowInt l.length (intF l) = l := by
  apply List.ext_getElem (by simp)
  intro i h1 h2
  simp only [rowInt, List.getElem_map, List.getElem_range, intF, intOf]
  rw [List.getD_eq_getElem?_getD, List.getElem?_eq_getElem h2]
  rfl
theorem R.sl_ext {C : Ctx} {n len : Nat} {f f' : Nat → List PC} {xs : List Value} (h : R C (.sl n len f) xs) (he : ∀ i, i < len → f i = f' i) : R C (.sl n len f') xs := by
  cases h with
  | sl h1 h2 h3 => exact .sl h1 h2 (fun i hi => by rw [← he i hi]; exact h3 i hi)
theorem FunOk.args {P : Program} {I : World → Prop} {f : Nat} {new : Bool} {args args' : List PV} {res : PV} (h : FunOk P I f new args' res) (hv : ∀ C vs, Vals C args vs → Vals C args' vs) : FunOk P I f new args res :=
  fun w ok0 vs hI hV => h w ok0 vs hI (hv _ vs hV)
theorem wrap_nat (k : Nat) (h : k < 9223372036854775807) : IntKind.i64.wrap ((k : Int) + 1) = ((k + 1 : Nat) : Int) := by
  rw [IntKind.wrap_i64]; omega
theorem getD_mem {α : Type} {l : List α} {i : Nat} (h : i < l.length) (d : α) : l.getD i d ∈ l := by
  rw [List.getD_eq_getElem?_getD, List.getElem?_eq_getElem h]; exact List.getElem_mem h
theorem all_cold {l : List PC} (h : l.all (coldPC false) = true) : ∀ x ∈ l, coldPC false x = true := fun x hx => List.all_eq_true.1 h x hx
end Go.Proofs.YtihghljfmlbfhaaDoor.Pv


namespace Go.Proofs.YtihghljfmlbfhaaDoor.Pv
open Go.RowKit
structure BoxS where
  nonce : Int
  cipher : ByteArray
  tag : List UInt8
  deriving Inhabited
def boxPC (b : BoxS) : List PC := [.lit (.int .i64 b.nonce), .lit (.string b.cipher), .bs 16 b.tag]
def boxF (l : List BoxS) : Nat → List PC := fun i => boxPC (l.getD i default)
def boxOf : List PC → BoxS
  | [.lit (.int _ n), .lit (.string c), .bs _ t] => ⟨n, c, t⟩
  | _ => default
def isBox : List PC → Bool
  | [.lit (.int .i64 _), .lit (.string _), .bs n _] => Nat.beq n 16
  | _ => false
def rowBox (n : Nat) (f : Nat → List PC) : List BoxS := (List.range n).map fun i => boxOf (f i)
def IsBoxRow (n : Nat) (f : Nat → List PC) : Prop := ∀ i, i < n → isBox (f i) = true
@[simp] theorem rowBox_length (n : Nat) (f : Nat → List PC) : (rowBox n f).length = n := by simp [rowBox]
@[simp] theorem isBoxRow_boxF (n : Nat) (l : List BoxS) : IsBoxRow n (boxF l) := fun _ _ => rfl
@[simp] theorem rowBox_boxF (l : List BoxS) : rowBox l.length (boxF l) = l := by
  apply List.ext_getElem (by simp)
  intro i h1 h2
  simp only [rowBox, List.getElem_map, List.getElem_range, boxF, boxPC, boxOf]
  rw [List.getD_eq_getElem?_getD, List.getElem?_eq_getElem h2]
  rfl
end Go.Proofs.YtihghljfmlbfhaaDoor.Pv


namespace Go.Proofs.YtihghljfmlbfhaaDoor.Pv
open Go.RowKit
theorem nonzero_snoc (l : List Int) (x : Int) : nonzero (l ++ [x]) = nonzero l + if x = 0 then 0 else 1 := by
  unfold nonzero
  rw [List.filter_append, List.length_append]
  by_cases h : x = 0 <;> simp [h]
theorem nonzero_le (l : List Int) : nonzero l ≤ l.length := List.length_filter_le _ _
theorem nonzero_take {l : List Int} {k : Nat} (h : k < l.length) : nonzero (l.take (k + 1)) = nonzero (l.take k) + if l.getD k 0 = 0 then 0 else 1 := by
  rw [List.take_add_one, List.getElem?_eq_getElem h, List.getD_eq_getElem?_getD, List.getElem?_eq_getElem h]
  exact nonzero_snoc _ _
theorem appF_cold' {k : Nat} {f g : Nat → List PC} (h1 : ∀ i, i < k → (f i).all (coldPC false) = true) (h2 : (g 0).all (coldPC false) = true) : ∀ i, i < k + 1 → (appF k f g i).all (coldPC false) = true := fun i hi => by
  unfold appF
  by_cases h : i < k
  · rw [if_pos h]; exact h1 i h
  · obtain rfl : i = k := by omega
    rw [if_neg h, Nat.sub_self]; exact h2
def mjSt (l : List Int) (k : Nat) : St := ⟨[(0, none, pv1 (.sl 1 l.length (intF l))), (3, none, pvI (nonzero (l.take k))), (6, none, pv1 (.sl 1 l.length (intF l))), (7, none, pvI l.length), (8, none, pvI k)], []⟩
set_option maxRecDepth 100000 in
theorem maj_fun {I : World → Prop} (hI0 : ∀ w w', Ext w w' → I w → I w') (l : List Int) (hl : l.length ≤ 1000) : FunOk Tryd.prog I 74 true [pv1 (.sl 1 l.length (intF l))] (pvB (majorityB l)) := by
  have M := noM (I := I)
  refine funOk_of Tryd.func74 rfl rfl hI0 (fun A hS hn hI => ?_)
  refine tri_reg M hI hn (outs := ?_) (s' := ?_) ?_ ?_ ?_ ?_
  rotate_left 2
  · rfl
  · kernel_rfl
  · simp
  refine tri_reg M hI hn (outs := ?_) (s' := ?_) ?_ ?_ ?_ ?_
  rotate_left 2
  · rfl
  · kernel_rfl
  · simp
  refine tri_seq ?_
  refine tri_reg M hI hn (outs := ?_) (s' := ?_) ?_ ?_ ?_ ?_
  rotate_left 2
  · rfl
  · kernel_rfl
  · simp
  refine tri_block ?_
  refine tri_conv (s' := mjSt l 0) (fun a w hg => (hg.reset (kT := [0, 3, 6, 7, 8]) (kO := []) (by rfl) (by simp)).same ?_ ?_) ?_
  · exact .cons rfl (.cons rfl (.cons rfl (.cons rfl (.cons rfl .nil))))
  · exact .nil
  refine tri_loop l.length (fun k s => s = mjSt l k) 0 rfl (by omega) (fun k s hJ hk => ?_)
  subst hJ
  refine tri_reg M hI hn (outs := ?_) (s' := ?_) ?_ ?_ ?_ ?_
  rotate_left 2
  · rfl
  · kernel_rfl
  · simp
  refine tri_seq ?_
  refine tri_cond (b := ?_) ?_ (fun hc => ?_) (fun hc => ?_)
  rotate_left 1
  · rfl
  · have hk2 : k < l.length := by simpa using hc
    have hnk := nonzero_take hk2
    have hnl := nonzero_le (l.take k)
    rw [List.length_take] at hnl
    refine tri_skip ?_
    change Tri _ _ _ _ _
    refine tri_seq ?_
    refine tri_block ?_
    refine tri_reg M hI hn (outs := ?_) (s' := ?_) ?_ ?_ ?_ ?_
    rotate_left 2
    · rfl
    · kernel_rfl
    · simp; omega
    refine tri_reg M hI hn (outs := ?_) (s' := ?_) ?_ ?_ ?_ ?_
    rotate_left 2
    · rfl
    · kernel_rfl
    · simp
    refine tri_cond (b := ?_) ?_ (fun hc => ?_) (fun hc => ?_)
    rotate_left 1
    · rfl
    · have hx : ¬ l.getD k 0 = 0 := by
        have h : (l.getD k 0 != 0) = true := hc
        simpa using h
      refine tri_region M hI hn (outs := ?_) (s' := ?_) ?_ ?_ ?_ ?_
      rotate_left 2
      · rfl
      · kernel_rfl
      · simp
      change Tri _ _ _ _ _
      refine tri_region M hI hn (outs := ?_) (s' := ?_) ?_ ?_ ?_ ?_
      rotate_left 2
      · rfl
      · kernel_rfl
      · simp
      intro a w hg
      refine ⟨k + 1, _, by omega, by omega, rfl, (hg.reset (kT := [0, 3, 6, 7, 8]) (kO := []) (by rfl) (by simp)).same ?_ ?_⟩
      · refine .cons rfl (.cons ?_ (.cons rfl (.cons rfl (.cons (by rw [wrap_nat k (by omega)]) .nil))))
        rw [wrap_nat _ (by omega), hnk, if_neg hx]
      · exact .nil
    · have hx : l.getD k 0 = 0 := by
        have h : (l.getD k 0 != 0) = false := hc
        simpa using h
      refine tri_skip ?_
      change Tri _ _ _ _ _
      refine tri_region M hI hn (outs := ?_) (s' := ?_) ?_ ?_ ?_ ?_
      rotate_left 2
      · rfl
      · kernel_rfl
      · simp
      intro a w hg
      refine ⟨k + 1, _, by omega, by omega, rfl, (hg.reset (kT := [0, 3, 6, 7, 8]) (kO := []) (by rfl) (by simp)).same ?_ ?_⟩
      · refine .cons rfl (.cons ?_ (.cons rfl (.cons rfl (.cons (by rw [wrap_nat k (by omega)]) .nil))))
        rw [hnk, if_pos hx, Nat.add_zero]
      · exact .nil
  · have hkk : k = l.length := by
      have : ¬ k < l.length := by simpa using hc
      omega
    subst hkk
    have hnl := nonzero_le l
    refine tri_exit ?_
    change Tri _ _ _ _ _
    refine tri_reg M hI hn (outs := ?_) (s' := ?_) ?_ ?_ ?_ ?_
    rotate_left 2
    · rfl
    · kernel_rfl
    · simp
    refine tri_ret (fun a w hg => ⟨.inr rfl, _, ?_, hg⟩)
    refine retTo_cold (out := ?_) ?_ ?_ ?_ ?_ ?_
    rotate_left 1
    · rfl
    · simp
    · rfl
    · rfl
    refine congrArg pvB ?_
    rw [List.take_length]
    unfold majorityB
    have e : IntKind.i64.wrap (2 * (nonzero l : Int)) = 2 * (nonzero l : Int) := by rw [IntKind.wrap_i64]; omega
    have e2 : ∀ x : Int, decide (x > (l.length : Int)) = decide ((l.length : Int) < x) := fun x => rfl
    refine decide_eq_decide.2 ?_
    show IntKind.i64.wrap (2 * (nonzero l : Int)) > (l.length : Int) ↔ _
    rw [e]
    omega
def majG : List PV → Option (Prop × PV)
  | [.w (.one (.sl 1 n f))] => some (IsIntRow n f ∧ n ≤ 1000, pvB (majorityB (rowInt n f)))
  | _ => none
theorem maj_spec {I : World → Prop} (hI0 : ∀ w w', Ext w w' → I w → I w') : SpecOk Tryd.prog I 74 (funSpec true majG) := by
  refine funSpec_ok (call_enters Tryd.func74 (by kernel_rfl) rfl) (fun xs p r hg hp => ?_)
  unfold majG at hg
  split at hg
  · rename_i n f
    cases hg
    have h := maj_fun hI0 (rowInt n f) (by rw [rowInt_length]; exact hp.2)
    rw [rowInt_length] at h
    intro w ok0 vs hI hV
    match vs, hV with
    | [v], ⟨k1, _⟩ => exact h w ok0 [v] hI ⟨.w (.one (k1.inv.sl_ext (intF_row hp.1))), trivial⟩
  · cases hg
def rdL : List (Nat × Spec) := [(73, prgSpec (decFP Prg.fuse)), (75, prgSpec (decU Prg.pulse fun _ _ => True)), (74, funSpec true majG)]
theorem rd_ok {I : World → Prop} (hI0 : ∀ w w', Ext w w' → I w → I w') : ∀ p ∈ rdL, SpecOk Tryd.prog I p.1 p.2 := by
  intro p hp
  simp only [rdL, List.mem_cons, List.not_mem_nil, or_false] at hp
  rcases hp with rfl | rfl | rfl
  · exact fuse_spec
  · exact pulse_spec
  · exact maj_spec hI0
theorem rdM {I : World → Prop} (hI0 : ∀ w w', Ext w w' → I w → I w') : Mach Tryd.prog I (find rdL) := ⟨specs_of (rd_ok hI0), mixed_⟩
def rdH (kd b c : Int) (l : List Acc) : Nat → List Acc
  | 0 => l
  | k + 1 => rdH kd b c l k ++ [⟨kd, b, 3 * c + k, noBytes⟩]
def rdV (O : List Acc → Option Res) (b c : Int) (l : List Acc) (k : Nat) : Int := (ans O (rdH 1 b c l (k + 1))).val
def rdVs (O : List Acc → Option Res) (b c : Int) (l : List Acc) : List Int := [rdV O b c l 0, rdV O b c l 1, rdV O b c l 2]
theorem go_read (O : List Acc → Option Res) (b c : Int) (l : List Acc) : go O (Prg.read b c) l = (majorityB (rdVs O b c l), rdH 1 b c l 3) := rfl
theorem rdH_mono (kd b c : Int) (l : List Acc) (k : Nat) : rdH kd b c l k <+: rdH kd b c l (k + 1) := List.prefix_append _ _
theorem rdH_ge (kd b c : Int) (l : List Acc) : ∀ k, l <+: rdH kd b c l k
  | 0 => List.prefix_refl _
  | k + 1 => (rdH_ge kd b c l k).trans (rdH_mono kd b c l k)
theorem rdH_le (kd b c : Int) (l : List Acc) {k : Nat} (hk : k < 3) : rdH kd b c l (k + 1) <+: rdH kd b c l 3 := by
  match k, hk with
  | 0, _ => exact (rdH_mono _ _ _ _ 1).trans (rdH_mono _ _ _ _ 2)
  | 1, _ => exact rdH_mono _ _ _ _ 2
  | 2, _ => exact List.prefix_refl _
theorem wrap3 {c : Int} {k : Nat} (hc : 0 ≤ c ∧ c ≤ 100000) (hk : k < 3) : IntKind.i64.wrap (IntKind.i64.wrap (3 * c) + (k : Int)) = 3 * c + k := by
  rw [IntKind.wrap_i64, IntKind.wrap_i64]; omega
def rdSt (O : List Acc → Option Res) (stp : List Acc → Prop) (b c : Int) (l : List Acc) (k : Nat) : St := ⟨[(0, none, .w (.one .dv)), (1, none, pvI b), (2, none, pvI c), (7, none, pv1 (.ow 5009 0 1 0 k)), (9, none, pvI k)],
  [(dx, none, 0, .dev O stp (rdH 1 b c l k)), (5009, none, 0, .arr 3 1 k (intF (rdVs O b c l)))]⟩
set_option maxRecDepth 100000 in
theorem read_fun {I : World → Prop} (hI0 : ∀ w w', Ext w w' → I w → I w') (b c : Int) (hbc : 0 ≤ c ∧ c ≤ 100000) : FunP Tryd.prog I 60 (Prg.read b c) [.w (.one .dv), pvI b, pvI c] pvB := by
  intro O l
  have M := rdM hI0
  have hbt : Tryd.prog.types[3].bytes = 8 := by kernel_rfl
  have hst : Tryd.prog.types[3].size = 1 := by kernel_rfl
  refine funX_of Tryd.func60 rfl rfl rfl (fun A hn hI => ?_)
  generalize hstp : (fun h => l <+: h ∧ h <+: (go O (Prg.read b c) l).2) = stp
  refine tri_reg M hI hn (outs := ?_) (s' := ?_) ?_ ?_ ?_ ?_
  rotate_left 2
  · rfl
  · kernel_rfl
  · simp
  refine tri_reg M hI hn (outs := ?_) (s' := ?_) ?_ ?_ ?_ ?_
  rotate_left 2
  · rfl
  · kernel_rfl
  · simp
  refine tri_seq ?_
  refine tri_reg M hI hn (outs := ?_) (s' := ?_) ?_ ?_ ?_ ?_
  rotate_left 2
  · rfl
  · kernel_rfl
  · simp
  refine tri_block ?_
  refine tri_conv (s' := rdSt O stp b c l 0) (fun a w hg => ((hg.nilRow (x := 5009) (e := 3) (n := 1) (t := 7) (by rfl) (by rfl)).reset (kT := [0, 1, 2, 7, 9]) (kO := [900000, 5009]) (by rfl) (by simp)).same ?_ ?_) ?_
  · exact .cons rfl (.cons rfl (.cons rfl (.cons rfl (.cons rfl .nil))))
  · exact .cons (.dev rfl) (.cons (.arr rfl (fun i hi => by omega)) .nil)
  refine tri_loop 3 (fun k s => s = rdSt O stp b c l k) 0 rfl (by omega) (fun k s hJ hk => ?_)
  subst hJ
  refine tri_reg M hI hn (outs := ?_) (s' := ?_) ?_ ?_ ?_ ?_
  rotate_left 2
  · rfl
  · kernel_rfl
  · simp
  refine tri_seq ?_
  refine tri_cond (b := ?_) ?_ (fun hc => ?_) (fun hc => ?_)
  rotate_left 1
  · rfl
  · have hk2 : k < 3 := by have := of_decide_eq_true hc; omega
    have hw := wrap3 hbc hk2
    refine tri_skip ?_
    change Tri _ _ _ _ _
    refine tri_seq ?_
    refine tri_block ?_
    refine tri_reg M hI hn (outs := ?_) (s' := ?_) ?_ ?_ ?_ ?_
    rotate_left 2
    · rfl
    · kernel_rfl
    · simp
    refine tri_region M hI hn (outs := ?_) (s' := ?_) ?_ ?_ ?_ ?_
    rotate_left 2
    · rfl
    · kernel_rfl
    · simp
      refine ⟨fun h h1 h2 _ => ?_, by rw [hbt]; omega⟩
      rw [hw] at h2
      rw [← hstp]
      exact ⟨(rdH_ge 1 b c l k).trans h1, h2.trans (rdH_le 1 b c l hk2)⟩
    change Tri _ _ _ _ _
    refine tri_region M hI hn (outs := ?_) (s' := ?_) ?_ ?_ ?_ ?_
    rotate_left 2
    · rfl
    · kernel_rfl
    · simp
    intro a w hg
    refine ⟨k + 1, _, by omega, by omega, rfl, (hg.reset (kT := [0, 1, 2, 7, 9]) (kO := [900000, 5009]) (by rfl) ?_).same ?_ ?_⟩
    · simp only [All, and_true, List.append_nil, List.nil_append]
      exact appF_cold' (fun i hi => rfl) rfl
    · exact .cons rfl (.cons rfl (.cons rfl (.cons rfl (.cons (by rw [wrap_nat k (by omega)]) .nil))))
    · refine .cons (.dev ?_) (.cons (.arr rfl (appF_ext (fun i hi => rfl) ?_)) .nil)
      · rw [hw]; rfl
      · rw [hw]
        match k, hk2 with
        | 0, _ => rfl
        | 1, _ => rfl
        | 2, _ => rfl
  · have hkk : k = 3 := by
      have := of_decide_eq_false hc; omega
    subst hkk
    refine tri_exit ?_
    change Tri _ _ _ _ _
    refine tri_reg M hI hn (outs := ?_) (s' := ?_) ?_ ?_ ?_ ?_
    rotate_left 2
    · rfl
    · kernel_rfl
    · simp
      exact fun i _ => one_cold rfl
    refine tri_ret (fun a w hg => ⟨.inr rfl, _, ⟨?_, (fun o ho => by cases ho), fun p hp => ?_⟩, hg⟩)
    rotate_left 1
    · cases hp
      rfl
    refine retTo_cold (out := ?_) ?_ ?_ ?_ ?_ ?_
    rotate_left 1
    · rfl
    · simp
    · rfl
    · rfl
    rw [go_read]
    have := rowInt_intF (rdVs O b c l)
    simp only [Nat.zero_add]
    exact congrArg (fun x => pvB (majorityB x)) this
def plSt (O : List Acc → Option Res) (stp : List Acc → Prop) (b c : Int) (l : List Acc) (k : Nat) : St := ⟨[(0, none, .w (.one .dv)), (1, none, pvI b), (2, none, pvI c), (7, none, pvI k)], [(dx, none, 0, .dev O stp (rdH 2 b c l k))]⟩
set_option maxRecDepth 100000 in
theorem pulses_fun {I : World → Prop} (hI0 : ∀ w w', Ext w w' → I w → I w') (b c : Int) (hbc : 0 ≤ c ∧ c ≤ 100000) : FunP Tryd.prog I 61 (Prg.pulses b c) [.w (.one .dv), pvI b, pvI c] (fun _ => .tup []) := by
  intro O l
  have M := rdM hI0
  refine funX_of Tryd.func61 rfl rfl rfl (fun A hn hI => ?_)
  generalize hstp : (fun h => l <+: h ∧ h <+: (go O (Prg.pulses b c) l).2) = stp
  refine tri_reg M hI hn (outs := ?_) (s' := ?_) ?_ ?_ ?_ ?_
  rotate_left 2
  · rfl
  · kernel_rfl
  · simp
  refine tri_block ?_
  refine tri_conv (s' := plSt O stp b c l 0) (fun a w hg => (hg.reset (kT := [0, 1, 2, 7]) (kO := [900000]) (by rfl) (by simp)).same ?_ ?_) ?_
  · exact .cons rfl (.cons rfl (.cons rfl (.cons rfl .nil)))
  · exact .cons (.dev rfl) .nil
  refine tri_loop 3 (fun k s => s = plSt O stp b c l k) 0 rfl (by omega) (fun k s hJ hk => ?_)
  subst hJ
  refine tri_reg M hI hn (outs := ?_) (s' := ?_) ?_ ?_ ?_ ?_
  rotate_left 2
  · rfl
  · kernel_rfl
  · simp
  refine tri_seq ?_
  refine tri_cond (b := ?_) ?_ (fun hc => ?_) (fun hc => ?_)
  rotate_left 1
  · rfl
  · have hk2 : k < 3 := by have := of_decide_eq_true hc; omega
    have hw := wrap3 hbc hk2
    refine tri_skip ?_
    change Tri _ _ _ _ _
    refine tri_seq ?_
    refine tri_block ?_
    refine tri_reg M hI hn (outs := ?_) (s' := ?_) ?_ ?_ ?_ ?_
    rotate_left 2
    · rfl
    · kernel_rfl
    · simp
    refine tri_region M hI hn (outs := ?_) (s' := ?_) ?_ ?_ ?_ ?_
    rotate_left 2
    · rfl
    · kernel_rfl
    · simp
      refine fun h h1 h2 _ => ?_
      rw [hw] at h2
      rw [← hstp]
      exact ⟨(rdH_ge 2 b c l k).trans h1, h2.trans (rdH_le 2 b c l hk2)⟩
    change Tri _ _ _ _ _
    refine tri_region M hI hn (outs := ?_) (s' := ?_) ?_ ?_ ?_ ?_
    rotate_left 2
    · rfl
    · kernel_rfl
    · simp
    intro a w hg
    refine ⟨k + 1, _, by omega, by omega, rfl, (hg.reset (kT := [0, 1, 2, 7]) (kO := [900000]) (by rfl) (by simp)).same ?_ ?_⟩
    · exact .cons rfl (.cons rfl (.cons rfl (.cons (by rw [wrap_nat k (by omega)]) .nil)))
    · refine .cons (.dev ?_) .nil
      rw [hw]; rfl
  · have hkk : k = 3 := by
      have := of_decide_eq_false hc; omega
    subst hkk
    refine tri_exit ?_
    change Aft _ _ _
    intro a w hg
    refine ⟨.inl rfl, _, ⟨?_, (fun o ho => by cases ho), fun p hp => ?_⟩, hg⟩
    rotate_left 1
    · cases hp
      rfl
    refine retTo_cold (out := ?_) ?_ ?_ ?_ ?_ ?_
    rotate_left 1
    · rfl
    · simp
    · rfl
    · rfl
    rfl
def decR : List PV → Option (Prop × Prg Bool × (Bool → PV))
  | [.w (.one (.lit (.int .i64 b))), .w (.one (.lit (.int .i64 c)))] => some (0 ≤ c ∧ c ≤ 100000, Prg.read b c, pvB)
  | _ => none
theorem read_spec {I : World → Prop} (hI0 : ∀ w w', Ext w w' → I w → I w') : SpecOk Tryd.prog I 60 (prgSpec decR) :=
  prgSpec_ok (call_enters Tryd.func60 (by kernel_rfl) rfl) (fun ys c p v h hc => by
    unfold decR at h
    split at h
    · cases h; exact read_fun hI0 _ _ hc
    · cases h)
theorem pulses_spec {I : World → Prop} (hI0 : ∀ w w', Ext w w' → I w → I w') : SpecOk Tryd.prog I 61 (prgSpec (decU Prg.pulses fun _ c => 0 ≤ c ∧ c ≤ 100000)) :=
  prgSpec_ok (call_enters Tryd.func61 (by kernel_rfl) rfl) (fun ys c p v h hc => by
    unfold decU at h
    split at h
    · cases h; exact pulses_fun hI0 _ _ hc
    · cases h)
end Go.Proofs.YtihghljfmlbfhaaDoor.Pv


namespace Go.Proofs.YtihghljfmlbfhaaDoor.Pv
open Go.RowKit
theorem tri_mid {P : Program} {A : Amb} {s : St} {Q : Exit → Act → World → Prop} {x y : Code} (J : St → Prop) (h : Tri P A s x (Exit.then (fun a w => ∃ s', J s' ∧ Gam A s' a w) Q)) (h2 : ∀ s', J s' → Tri P A s' y Q) : Tri P A s (.seq x y) Q := fun a w hg hPQ =>
  wp_seq (wp_mono (h a w hg (fun chain a w hd hp => hPQ chain a w hd hp)) (fun e a' w' he => by
    cases e <;> first | exact he | (obtain ⟨s', h3, h4⟩ := he; exact h2 s' h3 a' w' h4 hPQ)))
def lvL : List (Nat × Spec) := (60, prgSpec decR) :: (61, prgSpec (decU Prg.pulses fun _ c => 0 ≤ c ∧ c ≤ 100000)) :: rdL
theorem lv_ok {I : World → Prop} (hI0 : ∀ w w', Ext w w' → I w → I w') : ∀ p ∈ lvL, SpecOk Tryd.prog I p.1 p.2 := by
  intro p hp
  simp only [lvL, List.mem_cons] at hp
  rcases hp with rfl | rfl | hp
  · exact read_spec hI0
  · exact pulses_spec hI0
  · exact rd_ok hI0 p hp
theorem lvM {I : World → Prop} (hI0 : ∀ w w', Ext w w' → I w → I w') : Mach Tryd.prog I (find lvL) := ⟨specs_of (lv_ok hI0), mixed_⟩
def Left {α : Type} (O : List Acc → Option Res) (p : Prg α) (l : List Acc) (q : Prg α) (k : List Acc) : Prop := l <+: k ∧ go O p l = go O q k
theorem Left.start {α : Type} (O : List Acc → Option Res) (p : Prg α) (l : List Acc) : Left O p l p l := ⟨List.prefix_refl _, rfl⟩
theorem Left.step {α β : Type} {O : List Acc → Option Res} {p : Prg α} {l k : List Acc} {q : Prg β} {f : β → Prg α} (h : Left O p l (q.bind f) k) : Left O p l (f (go O q k).1) (go O q k).2 :=
  ⟨h.1.trans (go_pre O q k), h.2.trans (go_bind O q f k)⟩
theorem Left.stp {α β : Type} {O : List Acc → Option Res} {p : Prg α} {l k : List Acc} {q : Prg β} {f : β → Prg α} (h : Left O p l (q.bind f) k) : ∀ g, k <+: g → g <+: (go O q k).2 → O g = none → l <+: g ∧ g <+: (go O p l).2 := fun g h1 h2 _ => by
  refine ⟨h.1.trans h1, h2.trans ?_⟩
  rw [h.step.2]
  exact go_pre _ _ _
def lvSt (O : List Acc → Option Res) (stp : List Acc → Prop) (b : Int) (m : Nat) (n : Nat) (lk : List Acc) : St := ⟨[(0, none, .w (.one .dv)), (1, none, pvI b), (2, none, pvI m), (7, none, pvI n)], [(dx, none, 0, .dev O stp lk)]⟩
def lvSu (O : List Acc → Option Res) (stp : List Acc → Prop) (b : Int) (m : Nat) (n k : Nat) (lk : List Acc) : St := ⟨[(0, none, .w (.one .dv)), (1, none, pvI b), (2, none, pvI m), (7, none, pvI n), (19, none, pvI n), (20, none, pvI k)], [(dx, none, 0, .dev O stp lk)]⟩
set_option maxRecDepth 100000 in
set_option maxHeartbeats 1000000 in
theorem levelOf_fun {I : World → Prop} (hI0 : ∀ w w', Ext w w' → I w → I w') (b : Int) (m : Nat) (hm : m ≤ 1000) : FunP Tryd.prog I 38 (Prg.levelOf b m) [.w (.one .dv), pvI b, pvI m] (fun n => pvI n) := by
  intro O l
  have M := lvM hI0
  refine funX_of Tryd.func38 rfl rfl rfl (fun A hn hI => ?_)
  generalize hstp : (fun h => l <+: h ∧ h <+: (go O (Prg.levelOf b m) l).2) = stp
  refine tri_reg M hI hn (outs := ?_) (s' := ?_) ?_ ?_ ?_ ?_
  rotate_left 2
  · rfl
  · kernel_rfl
  · simp
  refine tri_scope ?_
  refine tri_reg M hI hn (outs := ?_) (s' := ?_) ?_ ?_ ?_ ?_
  rotate_left 2
  · rfl
  · kernel_rfl
  · simp
  refine tri_seq ?_
  refine tri_label ?_
  change Tri _ _ _ _ _
  refine tri_mid (fun s' => ∃ n lk, s' = lvSt O stp b m n lk ∧ n ≤ m ∧ Left O (Prg.levelOf b m) l ((Prg.down b n 0).bind fun _ => .ret n) lk) ?_ ?_
  · refine tri_block ?_
    refine tri_conv (s' := lvSt O stp b m 0 l) (fun a w hg => (hg.reset (kT := [0, 1, 2, 7]) (kO := [900000]) (by rfl) (by simp)).same ?_ ?_) ?_
    · exact .cons rfl (.cons rfl (.cons rfl (.cons rfl .nil)))
    · exact .cons (.dev rfl) .nil
    refine tri_loop m (fun n s => ∃ lk, s = lvSt O stp b m n lk ∧ Left O (Prg.levelOf b m) l ((Prg.up b (m - n) n).bind fun n => (Prg.down b n 0).bind fun _ => .ret n) lk) 0 ⟨l, rfl, Left.start _ _ _⟩ (by omega) (fun n s hJ hk => ?_)
    obtain ⟨lk, rfl, hL⟩ := hJ
    refine tri_seq ?_
    refine tri_reg M hI hn (outs := ?_) (s' := ?_) ?_ ?_ ?_ ?_
    rotate_left 2
    · rfl
    · kernel_rfl
    · simp
    refine tri_cond (b := ?_) ?_ (fun hc => ?_) (fun hc => ?_)
    rotate_left 1
    · rfl
    · have hn2 : n < m := by have := of_decide_eq_true hc; omega
      have hmn : m - n = (m - (n + 1)) + 1 := by omega
      rw [hmn, Prg.up, Prg.bind_assoc] at hL
      refine tri_skip ?_
      change Tri _ _ _ _ _
      refine tri_block ?_
      refine tri_seq ?_
      refine tri_reg M hI hn (outs := ?_) (s' := ?_) ?_ ?_ ?_ ?_
      rotate_left 2
      · rfl
      · kernel_rfl
      · simp
        refine ⟨by omega, fun h h1 h2 h3 => ?_⟩
        rw [← hstp]
        exact hL.stp h h1 h2 h3
      refine tri_cond (b := ?_) ?_ (fun hc => ?_) (fun hc => ?_)
      rotate_left 1
      · rfl
      · have hb : (go O (Prg.read b n) lk).1 = false := by
          have h : (!(go O (Prg.read b n) lk).1) = true := hc
          simpa using h
        have hL2 := hL.step
        rw [hb, if_neg (by simp)] at hL2
        refine tri_exit ?_
        intro a w hg
        refine ⟨_, ⟨n, _, rfl, by omega, hL2⟩, (hg.reset (kT := [0, 1, 2, 7]) (kO := [900000]) (by rfl) (by simp)).same ?_ ?_⟩
        · exact .cons rfl (.cons rfl (.cons rfl (.cons rfl .nil)))
        · exact .cons (.dev rfl) .nil
      · have hb : (go O (Prg.read b n) lk).1 = true := by
          have h : (!(go O (Prg.read b n) lk).1) = false := hc
          simpa using h
        have hL2 := hL.step
        rw [hb, if_pos rfl] at hL2
        refine tri_skip ?_
        change Tri _ _ _ _ _
        refine tri_region M hI hn (outs := ?_) (s' := ?_) ?_ ?_ ?_ ?_
        rotate_left 2
        · rfl
        · kernel_rfl
        · simp
        intro a w hg
        refine ⟨n + 1, _, by omega, by omega, ⟨_, rfl, hL2⟩, (hg.reset (kT := [0, 1, 2, 7]) (kO := [900000]) (by rfl) (by simp)).same ?_ ?_⟩
        · exact .cons rfl (.cons rfl (.cons rfl (.cons (by rw [wrap_nat n (by omega)]) .nil)))
        · exact .cons (.dev rfl) .nil
    · have hnm : n = m := by have := of_decide_eq_false hc; omega
      refine tri_exit ?_
      intro a w hg
      refine ⟨_, ⟨n, lk, rfl, by omega, ?_⟩, (hg.reset (kT := [0, 1, 2, 7]) (kO := [900000]) (by rfl) (by simp)).same ?_ ?_⟩
      · rw [hnm, Nat.sub_self] at hL
        rw [hnm]
        exact hL
      · exact .cons rfl (.cons rfl (.cons rfl (.cons rfl .nil)))
      · exact .cons (.dev rfl) .nil
  · rintro s' ⟨n, lk, rfl, hnm, hL⟩
    refine tri_seq ?_
    refine tri_reg M hI hn (outs := ?_) (s' := ?_) ?_ ?_ ?_ ?_
    rotate_left 2
    · rfl
    · kernel_rfl
    · simp
    refine tri_block ?_
    refine tri_conv (s' := lvSu O stp b m n 0 lk) (fun a w hg => (hg.reset (kT := [0, 1, 2, 7, 19, 20]) (kO := [900000]) (by rfl) (by simp)).same ?_ ?_) ?_
    · exact .cons rfl (.cons rfl (.cons rfl (.cons rfl (.cons rfl (.cons rfl .nil)))))
    · exact .cons (.dev rfl) .nil
    refine tri_loop n (fun k s => ∃ lk, s = lvSu O stp b m n k lk ∧ Left O (Prg.levelOf b m) l ((Prg.down b (n - k) k).bind fun _ => .ret n) lk) 0 ⟨lk, rfl, hL⟩ (by omega) (fun k s hJ hk => ?_)
    obtain ⟨lk2, rfl, hL2⟩ := hJ
    refine tri_reg M hI hn (outs := ?_) (s' := ?_) ?_ ?_ ?_ ?_
    rotate_left 2
    · rfl
    · kernel_rfl
    · simp
    refine tri_seq ?_
    refine tri_cond (b := ?_) ?_ (fun hc => ?_) (fun hc => ?_)
    rotate_left 1
    · rfl
    · have hk2 : k < n := by have := of_decide_eq_true hc; omega
      have hnk : n - k = (n - (k + 1)) + 1 := by omega
      rw [hnk, Prg.down, Prg.bind_assoc] at hL2
      refine tri_skip ?_
      change Tri _ _ _ _ _
      refine tri_seq ?_
      refine tri_block ?_
      refine tri_reg M hI hn (outs := ?_) (s' := ?_) ?_ ?_ ?_ ?_
      rotate_left 2
      · rfl
      · kernel_rfl
      · simp
      refine tri_region M hI hn (outs := ?_) (s' := ?_) ?_ ?_ ?_ ?_
      rotate_left 2
      · rfl
      · kernel_rfl
      · simp
        refine ⟨by omega, fun h h1 h2 h3 => ?_⟩
        rw [← hstp]
        exact hL2.stp h h1 h2 h3
      change Tri _ _ _ _ _
      refine tri_region M hI hn (outs := ?_) (s' := ?_) ?_ ?_ ?_ ?_
      rotate_left 2
      · rfl
      · kernel_rfl
      · simp
      intro a w hg
      refine ⟨k + 1, _, by omega, by omega, ⟨_, rfl, hL2.step⟩, (hg.reset (kT := [0, 1, 2, 7, 19, 20]) (kO := [900000]) (by rfl) (by simp)).same ?_ ?_⟩
      · exact .cons rfl (.cons rfl (.cons rfl (.cons rfl (.cons rfl (.cons (by rw [wrap_nat k (by omega)]) .nil)))))
      · exact .cons (.dev rfl) .nil
    · have hkk : k = n := by have := of_decide_eq_false hc; omega
      rw [hkk, Nat.sub_self] at hL2
      have hE : go O (Prg.levelOf b m) l = (n, lk2) := hL2.2
      refine tri_exit ?_
      change Tri _ _ _ _ _
      refine tri_reg M hI hn (outs := ?_) (s' := ?_) ?_ ?_ ?_ ?_
      rotate_left 2
      · rfl
      · kernel_rfl
      · simp
      refine tri_ret (fun a w hg => ⟨.inr rfl, _, ⟨?_, (fun o ho => by cases ho), fun p hp => ?_⟩, hg⟩)
      rotate_left 1
      · cases hp
        rw [hE]; rfl
      refine retTo_cold (out := ?_) ?_ ?_ ?_ ?_ ?_
      rotate_left 1
      · rfl
      · simp
      · rfl
      · rfl
      rw [hE]
def decLv : List PV → Option (Prop × Prg Nat × (Nat → PV))
  | [.w (.one (.lit (.int .i64 b))), .w (.one (.lit (.int .i64 m)))] => some (0 ≤ m ∧ m ≤ 1000, Prg.levelOf b m.toNat, fun n => pvI n)
  | _ => none
theorem levelOf_spec {I : World → Prop} (hI0 : ∀ w w', Ext w w' → I w → I w') : SpecOk Tryd.prog I 38 (prgSpec decLv) :=
  prgSpec_ok (call_enters Tryd.func38 (by kernel_rfl) rfl) (fun ys c p v h hc => by
    unfold decLv at h
    split at h
    · rename_i b m
      cases h
      obtain ⟨k, rfl⟩ : ∃ k : Nat, m = (k : Int) := ⟨m.toNat, by omega⟩
      rw [Int.toNat_natCast]
      exact levelOf_fun hI0 b k (by omega)
    · cases h)
def raL : List (Nat × Spec) := (38, prgSpec decLv) :: lvL
theorem ra_ok {I : World → Prop} (hI0 : ∀ w w', Ext w w' → I w → I w') : ∀ p ∈ raL, SpecOk Tryd.prog I p.1 p.2 := by
  intro p hp
  simp only [raL, List.mem_cons] at hp
  rcases hp with rfl | hp
  · exact levelOf_spec hI0
  · exact lv_ok hI0 p hp
theorem raM {I : World → Prop} (hI0 : ∀ w w', Ext w w' → I w → I w') : Mach Tryd.prog I (find raL) := ⟨specs_of (ra_ok hI0), mixed_⟩
def raSt (O : List Acc → Option Res) (stp : List Acc → Prop) (b : Int) (t : Nat) (n : Nat) (lk : List Acc) : St := ⟨[(0, none, .w (.one .dv)), (1, none, pvI b), (3, none, pvI t), (10, none, pvI n)], [(dx, none, 0, .dev O stp lk)]⟩
def raV (p : Nat × Int) : PV := .tup [.one (.lit (.int .i64 p.1)), .one (.lit (.int .i64 p.2))]
set_option maxRecDepth 100000 in
set_option maxHeartbeats 1000000 in
theorem raiseTo_fun {I : World → Prop} (hI0 : ∀ w w', Ext w w' → I w → I w') (b : Int) (m t : Nat) (hm : m ≤ 1000) (ht : t ≤ 1000) : FunP Tryd.prog I 39 (Prg.raiseTo b m t) [.w (.one .dv), pvI b, pvI m, pvI t] raV := by
  intro O l
  have M := raM hI0
  refine funX_of Tryd.func39 rfl rfl rfl (fun A hn hI => ?_)
  generalize hstp : (fun h => l <+: h ∧ h <+: (go O (Prg.raiseTo b m t) l).2) = stp
  have hL0 : Left O (Prg.raiseTo b m t) l ((Prg.levelOf b m).bind fun n => Prg.raiseFrom b (t - n) n) l := Left.start _ _ _
  have hn0 : (go O (Prg.levelOf b m) l).1 ≤ m := go_all O (levelOf_all b m) l
  have hL := hL0.step
  refine tri_reg M hI hn (outs := ?_) (s' := ?_) ?_ ?_ ?_ ?_
  rotate_left 2
  · rfl
  · kernel_rfl
  · simp
  refine tri_reg M hI hn (outs := ?_) (s' := ?_) ?_ ?_ ?_ ?_
  rotate_left 2
  · rfl
  · kernel_rfl
  · simp
    refine ⟨by omega, fun h h1 h2 h3 => ?_⟩
    rw [← hstp]
    exact hL0.stp h h1 h2 h3
  obtain ⟨n0, l0, hq⟩ : ∃ n0 l0, go O (Prg.levelOf b m) l = (n0, l0) := ⟨_, _, rfl⟩
  rw [hq] at hn0 hL
  dsimp only at hn0 hL
  refine tri_seq ?_
  refine tri_block ?_
  refine tri_conv (s' := raSt O stp b t n0 l0) (fun a w hg => (hg.reset (kT := [0, 1, 3, 10]) (kO := [900000]) (by rfl) (by simp)).same ?_ ?_) ?_
  · exact .cons rfl (.cons rfl (.cons rfl (.cons (by show pvI ((go O (Prg.levelOf b m) l).1 : Int) = _; rw [hq]) .nil)))
  · exact .cons (.dev (by show (go O (Prg.levelOf b m) l).2 = _; rw [hq])) .nil
  refine tri_loop (m + t) (fun n s => ∃ lk, s = raSt O stp b t n lk ∧ Left O (Prg.raiseTo b m t) l (Prg.raiseFrom b (t - n) n) lk) n0 ⟨l0, rfl, hL⟩ (by omega) (fun n s hJ hk => ?_)
  obtain ⟨lk, rfl, hL⟩ := hJ
  refine tri_seq ?_
  refine tri_reg M hI hn (outs := ?_) (s' := ?_) ?_ ?_ ?_ ?_
  rotate_left 2
  · rfl
  · kernel_rfl
  · simp
  refine tri_cond (b := ?_) ?_ (fun hc => ?_) (fun hc => ?_)
  rotate_left 1
  · rfl
  · have hn2 : n < t := by have := of_decide_eq_true hc; omega
    rw [show t - n = (t - (n + 1)) + 1 by omega, Prg.raiseFrom] at hL
    have hL2 := hL.step
    have hL3 := hL2.step
    refine tri_skip ?_
    change Tri _ _ _ _ _
    refine tri_seq ?_
    refine tri_block ?_
    refine tri_reg M hI hn (outs := ?_) (s' := ?_) ?_ ?_ ?_ ?_
    rotate_left 2
    · rfl
    · kernel_rfl
    · simp
      refine ⟨by omega, fun h h1 h2 h3 => ?_⟩
      rw [← hstp]
      exact hL.stp h h1 h2 h3
    refine tri_reg M hI hn (outs := ?_) (s' := ?_) ?_ ?_ ?_ ?_
    rotate_left 2
    · rfl
    · kernel_rfl
    · simp
      refine ⟨by omega, fun h h1 h2 h3 => ?_⟩
      rw [← hstp]
      exact hL2.stp h h1 h2 h3
    refine tri_cond (b := ?_) ?_ (fun hc => ?_) (fun hc => ?_)
    rotate_left 1
    · rfl
    · have hb : (go O (Prg.read b n) (go O (Prg.pulses b n) lk).2).1 = false := by
        have h : (!(go O (Prg.read b n) (go O (Prg.pulses b n) lk).2).1) = true := hc
        simpa using h
      rw [hb, if_neg (by simp)] at hL3
      have hE := hL3.2
      refine tri_reg M hI hn (outs := ?_) (s' := ?_) ?_ ?_ ?_ ?_
      rotate_left 2
      · rfl
      · kernel_rfl
      · simp
      refine tri_ret (fun a w hg => ⟨.inr rfl, _, ⟨?_, (fun o ho => by cases ho), fun p hp => ?_⟩, hg⟩)
      rotate_left 1
      · cases hp
        rw [hE]; rfl
      refine retTo_cold (out := ?_) ?_ ?_ ?_ ?_ ?_
      rotate_left 1
      · rfl
      · simp
      · rfl
      · rfl
      rw [hE]
      rfl
    · have hb : (go O (Prg.read b n) (go O (Prg.pulses b n) lk).2).1 = true := by
        have h : (!(go O (Prg.read b n) (go O (Prg.pulses b n) lk).2).1) = false := hc
        simpa using h
      rw [hb, if_pos rfl] at hL3
      refine tri_skip ?_
      change Tri _ _ _ _ _
      refine tri_region M hI hn (outs := ?_) (s' := ?_) ?_ ?_ ?_ ?_
      rotate_left 2
      · rfl
      · kernel_rfl
      · simp
      intro a w hg
      refine ⟨n + 1, _, by omega, by omega, ⟨_, rfl, hL3⟩, (hg.reset (kT := [0, 1, 3, 10]) (kO := [900000]) (by rfl) (by simp)).same ?_ ?_⟩
      · exact .cons rfl (.cons rfl (.cons rfl (.cons (by rw [wrap_nat n (by omega)]) .nil)))
      · exact .cons (.dev rfl) .nil
  · have hn2 : t - n = 0 := by have := of_decide_eq_false hc; omega
    rw [hn2] at hL
    have hE : go O (Prg.raiseTo b m t) l = ((n, 0), lk) := hL.2
    refine tri_exit ?_
    change Tri _ _ _ _ _
    refine tri_reg M hI hn (outs := ?_) (s' := ?_) ?_ ?_ ?_ ?_
    rotate_left 2
    · rfl
    · kernel_rfl
    · simp
    refine tri_ret (fun a w hg => ⟨.inr rfl, _, ⟨?_, (fun o ho => by cases ho), fun p hp => ?_⟩, hg⟩)
    rotate_left 1
    · cases hp
      rw [hE]; rfl
    refine retTo_cold (out := ?_) ?_ ?_ ?_ ?_ ?_
    rotate_left 1
    · rfl
    · simp
    · rfl
    · rfl
    rw [hE]
    rfl
def decRa : List PV → Option (Prop × Prg (Nat × Int) × (Nat × Int → PV))
  | [.w (.one (.lit (.int .i64 b))), .w (.one (.lit (.int .i64 m))), .w (.one (.lit (.int .i64 t)))] => some ((0 ≤ m ∧ m ≤ 1000) ∧ 0 ≤ t ∧ t ≤ 1000, Prg.raiseTo b m.toNat t.toNat, raV)
  | _ => none
theorem raiseTo_spec {I : World → Prop} (hI0 : ∀ w w', Ext w w' → I w → I w') : SpecOk Tryd.prog I 39 (prgSpec decRa) :=
  prgSpec_ok (call_enters Tryd.func39 (by kernel_rfl) rfl) (fun ys c p v h hc => by
    unfold decRa at h
    split at h
    · rename_i b m t
      cases h
      obtain ⟨k, rfl⟩ : ∃ k : Nat, m = (k : Int) := ⟨m.toNat, by omega⟩
      obtain ⟨j, rfl⟩ : ∃ j : Nat, t = (j : Int) := ⟨t.toNat, by omega⟩
      rw [Int.toNat_natCast, Int.toNat_natCast]
      exact raiseTo_fun hI0 b k j (by omega) (by omega)
    · cases h)
end Go.Proofs.YtihghljfmlbfhaaDoor.Pv


namespace Go.Proofs.YtihghljfmlbfhaaDoor
open Go.ChangeShapes Go.WideShapes Go.ChangeAt Go.RowKit Go.Joins Go.Deep
open Go.ChangeMaps (open_string shut_string)
set_option linter.unusedVariables false
theorem own : ownKnob Tryd.prog.godebug = none := by kernel_rfl
theorem laidOut : laidOutB Tryd.prog = true := by kernel_rfl
theorem gK : Tryd.prog.globalNamed "bootchain/sha.constants" = some 1 := by kernel_rfl
theorem gKType : (Tryd.prog.globals[1]?).map (·.type) = some 131 := by kernel_rfl
theorem gH : Tryd.prog.globalNamed "bootchain/sha.start" = some 0 := by kernel_rfl
theorem gHType : (Tryd.prog.globals[0]?).map (·.type) = some 112 := by kernel_rfl
theorem cellsK : Tryd.prog.cellsOf 131 = 64 := by kernel_rfl
theorem cellsH : Tryd.prog.cellsOf 112 = 8 := by kernel_rfl
theorem cellsU32 : Tryd.prog.cellsOf 25 = 1 := by kernel_rfl
def wordsI (l : List UInt32) : List Int := l.map fun x => (x.toNat : Int)
theorem dataK : (Rows.laid_bootchain_sha_constants : DataW Unit) = Lib.tabData .u32 (wordsI shaK) := by kernel_rfl
theorem dataH : (Rows.laid_bootchain_sha_start : DataW Unit) = Lib.tabData .u32 (wordsI shaH0) := by kernel_rfl
theorem rangeAt_tab {W : World} {name : String} {l : List UInt32} {g : Nat} (h : Lib.TabIs Tryd.prog W name .u32 (wordsI l)) (hg : Tryd.prog.globalNamed name = some g) : W.rangeAt g 0 (l.map w32) := by
  intro j v hj
  rw [List.getElem?_map] at hj
  obtain ⟨x, hx, rfl⟩ := Option.map_eq_some_iff.1 hj
  have hl : j < l.length := by
    rcases Nat.lt_or_ge j l.length with h' | h'
    · exact h'
    · rw [List.getElem?_eq_none h'] at hx; cases hx
  have := h.cell hg j (by unfold wordsI; simpa using hl)
  rw [show (wordsI l).getD j 0 = (x.toNat : Int) from by unfold wordsI; simp [List.getD, hx]] at this
  simpa [w32] using this
theorem shaMem_of_laid {W : World} (h : laidMetH Tryd.prog [("bootchain/sha.constants", Rows.laid_bootchain_sha_constants), ("bootchain/sha.start", Rows.laid_bootchain_sha_start)] W) : ShaMem W := by
  have h1 : laidMet Tryd.prog [("bootchain/sha.constants", Rows.laid_bootchain_sha_constants), ("bootchain/sha.start", Rows.laid_bootchain_sha_start)] W := h
  have h2 := laidMet.tail h1
  rw [dataK] at h1
  rw [dataH] at h2
  exact ⟨rangeAt_tab (Lib.tabIs_of_head gK gKType Tryd.underlying131 Tryd.underlying25 cellsU32 cellsK h1) gK,
    rangeAt_tab (Lib.tabIs_of_head gH gHType Tryd.underlying112 Tryd.underlying25 cellsU32 cellsH h2) gH⟩
def layCells (cs : List Value) : Obj → Obj
  | .cells _ t frozen => .cells cs.toArray t frozen
  | o => o
noncomputable def laidWorld (os : Os) : World :=
  { World.holding Tryd.prog os ⟨#[], #[], []⟩ with
    heap := ((World.holding Tryd.prog os ⟨#[], #[], []⟩).heap.modify 1 (layCells (shaK.map w32))).modify 0 (layCells (shaH0.map w32)) }
theorem reads_list {α : Type} {n : Nat} {E : Nat → List Value} {R : α → Prop} (g : α → List Value) (h : ∀ i, i < n → ∃ a, E i = g a ∧ R a) : ∃ l : List α, l.length = n ∧ (List.range n).flatMap E = l.flatMap g ∧ ∀ a ∈ l, R a := by
  induction n with
  | zero => exact ⟨[], rfl, rfl, fun a h => by cases h⟩
  | succ n ih =>
    obtain ⟨l, h1, h2, h3⟩ := ih fun i hi => h i (by omega)
    obtain ⟨a, h4, h5⟩ := h n (by omega)
    refine ⟨l ++ [a], by simp [h1], ?_, fun b hb => ?_⟩
    · rw [List.range_succ, List.flatMap_append, List.flatMap_append, h2]
      simp [h4]
    · rcases List.mem_append.1 hb with hb | hb
      · exact h3 b hb
      · rw [List.mem_singleton.1 hb]; exact h5
section
variable {H : Type} {enc : TypeId × Value → H} {P : Program} {w : World} {base : Nat} {spare : Nat → Bool} {held : Bool}
theorem trod_reads {t e : TypeId} {k : Nat} {fuel : Nat} {cs : List Value} {x : DataW H × List MemPlace} (ht : P.underlying t = some (.slice e)) (hk : P.cellsOf e = k) (hk0 : 0 < k) (h : DataW.trod enc P w base spare held fuel t cs = some x) :
    ∃ (v : Value) (n : Nat) (E : Nat → List Value) (m : Nat) (Y : Nat → DataW H × List MemPlace), cs = [v] ∧ Reads w k v n ((List.range n).flatMap E) ∧ ∀ i, i < n → (E i).length = k ∧ DataW.trod enc P w base spare held m e (E i) = some (Y i) := by
  rcases open_slice ht h with ⟨rfl, _⟩ | ⟨a, len, cap, m, n, D, Pl, hcs, hb, hl, hm, hmm, hx, hi⟩
  · exact ⟨_, 0, fun _ => [], 0, fun _ => (.nil, []), rfl, by simpa using Reads.nil w k, fun i hi => by omega⟩
  · rw [hk] at hi
    have hlm : len ≤ m := by rw [hmm]; split <;> omega
    have hall : ∀ i, ∃ cs', i < m → w.cells? base (a.add (i * k)) k = some cs' ∧ DataW.trod enc P w base spare held n e cs' = some (D i, Pl i) := fun i => by
      by_cases h : i < m
      · obtain ⟨c, hc⟩ := hi i h
        exact ⟨c, fun _ => hc⟩
      · exact ⟨[], fun h' => absurd h' h⟩
    refine ⟨_, len, fun i => Classical.choose (hall i), n, fun i => (D i, Pl i), hcs, ?_, fun i hil => ?_⟩
    · have hsz : ∀ i, i < m → (Classical.choose (hall i)).length = k ∧ ∀ j, j < k → w.cell? ((a.add (i * k)).add j) = (Classical.choose (hall i))[j]? := fun i him => by
        obtain ⟨_, h2, h3⟩ := World.cells?_some (Classical.choose_spec (hall i) him).1
        exact ⟨h2, h3⟩
      have hlen : ∀ j, j ≤ m → ((List.range j).flatMap fun i => Classical.choose (hall i)).length = j * k := by
        intro j
        induction j with
        | zero => intro _; simp
        | succ j ih =>
          intro hj
          rw [List.range_succ, List.flatMap_append, List.length_append, ih (by omega)]
          simp [(hsz j (by omega)).1, Nat.succ_mul]
      have hget : ∀ j, j ≤ m → ∀ q u, ((List.range j).flatMap fun i => Classical.choose (hall i))[q]? = some u → w.cell? (a.add q) = some u := by
        intro j
        induction j with
        | zero => intro _ q u h; simp at h
        | succ j ih =>
          intro hj q u h
          rw [List.range_succ, List.flatMap_append, List.getElem?_append] at h
          rw [hlen j (by omega)] at h
          by_cases hq : q < j * k
          · rw [if_pos hq] at h
            exact ih (by omega) q u h
          · rw [if_neg hq] at h
            simp only [List.flatMap_cons, List.flatMap_nil, List.append_nil] at h
            have h2 := (hsz j (by omega)).2 (q - j * k) (by
              have := (hsz j (by omega)).1
              rcases Nat.lt_or_ge (q - j * k) k with h' | h'
              · exact h'
              · rw [List.getElem?_eq_none (by omega)] at h; cases h)
            rw [add_of_add, show j * k + (q - j * k) = q from by omega] at h2
            rw [h2, h]
      refine ⟨hlen len hlm, _, cap, rfl, hl, hm, fun hn => ?_⟩
      have hl0 := hlen len hlm
      obtain ⟨u0, hu0⟩ : ∃ u0, ((List.range len).flatMap fun i => Classical.choose (hall i))[0]? = some u0 := ⟨_, List.getElem?_eq_getElem (by rw [hl0]; exact Nat.mul_pos hn hk0)⟩
      have hc0 := hget len hlm 0 u0 hu0
      obtain ⟨b, off, spot⟩ := a
      have hspot : spot = none := by simpa [Addr.add] using World.cell?_spot hc0
      subst hspot
      refine ⟨b, off, rfl, fun j u hu => ?_⟩
      have := hget len hlm j u hu
      rwa [add_lit] at this
    · have h2 := Classical.choose_spec (hall i) (by omega)
      exact ⟨(World.cells?_some h2.1).2.1, h2.2⟩
theorem map_flat (k : IntKind) (l : List Int) : l.map (Value.int k) = l.flatMap fun z => [Value.int k z] := by
  induction l with
  | nil => rfl
  | cons a l ih => rw [List.map_cons, List.flatMap_cons, ← ih]; rfl
theorem trod_reads_ints {t e : TypeId} {k : IntKind} {fuel : Nat} {cs : List Value} {x : DataW H × List MemPlace} (ht : P.underlying t = some (.slice e)) (he : P.underlying e = some (.int k)) (hk : P.cellsOf e = 1) (h : DataW.trod enc P w base spare held fuel t cs = some x) :
    ∃ (v : Value) (l : List Int), cs = [v] ∧ Reads w 1 v l.length (l.map (Value.int k)) ∧ ∀ z ∈ l, (Lit.int k z).wf = true := by
  obtain ⟨v, n, E, m, Y, rfl, hr, hE⟩ := trod_reads ht hk (by omega) h
  obtain ⟨l, rfl, h2, h3⟩ := reads_list (R := fun z => (Lit.int k z).wf = true) (fun z => [Value.int k z]) fun i hi => by
    obtain ⟨z, hz, _, hw⟩ := DataW.trod_int he (hE i hi).2
    exact ⟨z, hz, hw⟩
  rw [h2] at hr
  refine ⟨v, l, rfl, ?_, h3⟩
  rw [map_flat]
  exact hr
def toByte (z : Int) : UInt8 := UInt8.ofNat z.toNat
theorem toByte_v {z : Int} (h : (Lit.int .u8 z).wf = true) : Value.int .u8 z = u8v (toByte z) := by
  have := bounds_u8 h
  have e : ((toByte z).toNat : Int) = z := by
    unfold toByte
    rw [UInt8.toNat_ofNat']
    omega
  show Value.int .u8 z = Value.int .u8 ((toByte z).toNat : Int)
  rw [e]
theorem trod_bytes {t e : TypeId} {fuel : Nat} {cs : List Value} {x : DataW H × List MemPlace} (ht : P.underlying t = some (.slice e)) (he : P.underlying e = some (.int .u8)) (hk : P.cellsOf e = 1) (h : DataW.trod enc P w base spare held fuel t cs = some x) :
    ∃ (v : Value) (l : List UInt8), cs = [v] ∧ Reads w 1 v l.length (l.map u8v) := by
  obtain ⟨v, l, rfl, hr, hw⟩ := trod_reads_ints ht he hk h
  refine ⟨v, l.map toByte, rfl, ?_⟩
  rw [List.length_map, List.map_map, show l.map (u8v ∘ toByte) = l.map (Value.int .u8) from List.map_congr_left fun z hz => (toByte_v (hw z hz)).symm]
  exact hr
end
end Go.Proofs.YtihghljfmlbfhaaDoor


namespace Go.Proofs.YtihghljfmlbfhaaDoor
open Go.ChangeShapes Go.WideShapes Go.ChangeAt Go.RowKit Go.Joins Go.Deep
section
variable {H : Type} {enc : TypeId × Value → H} {P : Program} {w : World} {base : Nat} {spare : Nat → Bool} {held : Bool}
theorem bytes_of_cells (cs : List Value) (h : ∀ c ∈ cs, ∃ b : UInt8, c = u8v b) : ∃ l : List UInt8, cs = l.map u8v := by
  induction cs with
  | nil => exact ⟨[], rfl⟩
  | cons c cs ih =>
    obtain ⟨l, hl⟩ := ih fun x hx => h x (List.mem_cons_of_mem _ hx)
    obtain ⟨b, hb⟩ := h c (List.mem_cons_self ..)
    exact ⟨b :: l, by rw [hb, hl]; rfl⟩
theorem trod_bytesArr {t e : TypeId} {n fuel : Nat} {cs : List Value} {x : DataW H × List MemPlace} (ht : P.underlying t = some (.array n e)) (he : P.underlying e = some (.int .u8)) (hk : P.cellsOf e = 1) (hn : P.cellsOf t = n) (h : DataW.trod enc P w base spare held fuel t cs = some x) :
    ∃ l : List UInt8, l.length = n ∧ cs = l.map u8v := by
  obtain ⟨xs, m, _, _, hl, hxl, hf⟩ := DataW.trod_array ht h
  rw [hn] at hl
  rw [hk] at hf
  obtain ⟨l, hl2⟩ := bytes_of_cells cs fun c hc => by
    obtain ⟨i, hi, hci⟩ := List.getElem_of_mem hc
    have h1 := hf i (by omega)
    rw [Nat.mul_one, List.drop_eq_getElem_cons hi, List.take_succ_cons, List.take_zero, List.getElem?_eq_getElem (by omega)] at h1
    obtain ⟨z, hz, _, hw⟩ := DataW.trod_int he h1
    cases hz2 : cs[i]
    all_goals rw [hz2] at hz
    all_goals (cases hz)
    exact ⟨toByte z, by rw [← hci, hz2]; exact toByte_v hw⟩
  exact ⟨l, by rw [hl2] at hl; simpa using hl, hl2⟩
theorem okWide_array {r : Reach} {b0 : Nat} {t e : TypeId} {n : Nat} {v : Value} (ht : P.underlying t = some (.array n e)) (h : Value.okWide P w r b0 t v) : ∃ cs, v = .agg cs ∧ cs.size = P.cellsOf t := by
  simp only [Value.okWide, ht] at h
  obtain ⟨cs, h1, h2, _⟩ := h
  exact ⟨cs, h1, h2⟩
end
set_option maxRecDepth 100000 in
theorem open_digest {H : Type} {enc : TypeId × Value → H} {v : Value} {d : DataW H} {p : List MemPlace} {W : World} {base : Nat} (hv : Value.okWide Tryd.prog W .any base 23 v)
    (h : DataW.Trod enc Tryd.prog W 0 (fun _ => true) true 23 v d p) : ∃ l : List UInt8, l.length = 16 ∧ v = .agg (l.map u8v).toArray := by
  obtain ⟨cs, rfl, _⟩ := okWide_array Tryd.underlying23 hv
  obtain ⟨m, h⟩ := h
  obtain ⟨l, h1, h2⟩ := trod_bytesArr Tryd.underlying23 Tryd.underlying5 (by kernel_rfl) (by kernel_rfl) h
  refine ⟨l, h1, ?_⟩
  have : cs.toList = l.map u8v := h2
  rw [← this, Array.toArray_toList]
end Go.Proofs.YtihghljfmlbfhaaDoor


namespace Go.Proofs.YtihghljfmlbfhaaDoor
open Go.ChangeShapes Go.WideShapes Go.ChangeAt Go.RowKit Go.Joins Go.Deep
end Go.Proofs.YtihghljfmlbfhaaDoor


namespace Go.Proofs.YtihghljfmlbfhaaDoor.Pv
open Go.ChangeShapes Go.WideShapes Go.ChangeAt Go.RowKit Go.Joins Go.Deep
def strF (l : List ByteArray) : Nat → List PC := fun i => [.lit (.string (l.getD i { data := #[] }))]
def strOfPC : List PC → ByteArray
  | [.lit (.string c)] => c
  | _ => { data := #[] }
def isStr : List PC → Bool
  | [.lit (.string _)] => true
  | _ => false
def rowStr (n : Nat) (f : Nat → List PC) : List ByteArray := (List.range n).map fun i => strOfPC (f i)
def IsStrRow (n : Nat) (f : Nat → List PC) : Prop := ∀ i, i < n → isStr (f i) = true
@[simp] theorem rowStr_length (n : Nat) (f : Nat → List PC) : (rowStr n f).length = n := by simp [rowStr]
@[simp] theorem isStrRow_strF (n : Nat) (l : List ByteArray) : IsStrRow n (strF l) := fun _ _ => rfl
@[simp] theorem rowStr_strF (l : List ByteArray) : rowStr l.length (strF l) = l := by
  apply List.ext_getElem (by simp)
  intro i h1 h2
  simp only [rowStr, List.getElem_map, List.getElem_range, strF, strOfPC]
  rw [List.getD_eq_getElem?_getD, List.getElem?_eq_getElem h2]
  rfl
theorem flat_win {α : Type} (g : α → List Value) (n : Nat) : ∀ (l : List α), (∀ a ∈ l, (g a).length = n) → ∀ (i : Nat) (hi : i < l.length), ((l.flatMap g).drop (i * n)).take n = g l[i]
  | [], _, i, hi => by simp at hi
  | a :: l, h, 0, hi => by
    rw [Nat.zero_mul, List.drop_zero, List.flatMap_cons, List.take_append_of_le_length (by rw [h a List.mem_cons_self]; omega), List.take_of_length_le (by rw [h a List.mem_cons_self]; omega)]
    rfl
  | a :: l, h, i + 1, hi => by
    have hi' : i < l.length := by simpa using hi
    rw [List.flatMap_cons, show (i + 1) * n = (g a).length + i * n by rw [h a List.mem_cons_self, Nat.succ_mul, Nat.add_comm], ← List.drop_drop, List.drop_left, flat_win g n l (fun b hb => h b (List.mem_cons_of_mem _ hb)) i hi']
    rfl
def argX (w : World) : Ctx := { w := w, ok := fun _ => True, env := fun _ => none }
theorem rsl_of {α : Type} {w : World} {v : Value} {n : Nat} {l : List α} {g : α → List Value} {f : Nat → List PC} (hn : 0 < n) (hg : ∀ a ∈ l, (g a).length = n) (hr : Reads w n v l.length (l.flatMap g)) (hc : ∀ (C : Ctx) (i : Nat) (hi : i < l.length), RL C (f i) (g l[i])) : R (argX w) (.sl n l.length f) [v] :=
  .sl hr (fun b hb hlt => ⟨trivial, hr.own_lt hn hlt b hb⟩) (fun i hi => by rw [flat_win g n l hg i hi]; exact hc _ i hi)
section
variable {H : Type} {enc : TypeId × Value → H} {w : World} {base : Nat} {spare : Nat → Bool} {held : Bool}
end
section
variable {H : Type} {enc : TypeId × Value → H} {w : World} {base : Nat} {spare : Nat → Bool} {held : Bool}
def digCells (l : List UInt8) : List Value := l.map u8v
theorem sl_len {C : Ctx} {n len : Nat} {f : Nat → List PC} {xs : List Value} (h : R C (.sl n len f) xs) : len < 9223372036854775808 := by
  cases h with
  | sl hr _ _ => have := hr.len_le; unfold maxLen at this; omega
end
section
variable {H : Type} {enc : TypeId × Value → H} {v : Value} {d : DataW H} {p : List MemPlace} {W : World} {base : Nat}
theorem FunOk.law {P : Program} {I : World → Prop} {f : Nat} {new : Bool} {args : List PV} (h : FunOk P I f new args (pvB true)) {vs : List Value} (hI : I W) (hv : Vals (argX W) args vs) : Calls P f vs.toArray W fun e W' => e = .returned (.bool true) ∧ Ext W W' := by
  refine (h W (fun _ => True) vs hI hv).mono ?_
  rintro e w' ⟨val, rfl, hE, hr⟩
  exact ⟨congrArg Ending.returned hr.lit_inv, hE⟩
theorem rv_digest {C : Ctx} {l : List UInt8} (h : l.length = 16) : RV C (.w (.agg [.bs 16 l])) (.agg (l.map u8v).toArray) := rv_of_dig h
end
end Go.Proofs.YtihghljfmlbfhaaDoor.Pv


namespace Go.Proofs.YtihghljfmlbfhaaDoor
def dig (m : List UInt8) (k : Nat) : Nat := (m.getD (k / 4) 0).toNat / 4 ^ (3 - k % 4) % 4
def sumTo (m : List UInt8) : Nat → Nat
  | 0 => 0
  | k + 1 => sumTo m k + (3 - dig m k)
def chk (m : List UInt8) : Nat := sumTo m 64
def digC (m : List UInt8) (k : Nat) : Nat := if k < 64 then dig m k else chk m / 4 ^ (67 - k) % 4
theorem dig_le (m : List UInt8) (k : Nat) : dig m k ≤ 3 := by unfold dig; omega
theorem digC_le (m : List UInt8) (k : Nat) : digC m k ≤ 3 := by
  unfold digC
  split
  · exact dig_le m k
  · omega
theorem sumTo_le (m : List UInt8) : ∀ k, sumTo m k ≤ 3 * k
  | 0 => Nat.le_refl _
  | k + 1 => by have := sumTo_le m k; rw [sumTo]; omega
theorem chk_le (m : List UInt8) : chk m ≤ 192 := sumTo_le m 64
def stepS (k : Nat) (v : List UInt8) : List UInt8 := digestS 3 [wInt k, v]
def advS (k : Nat) (v : List UInt8) : Nat → List UInt8
  | 0 => v
  | n + 1 => stepS k (advS k v n)
theorem advS_add (k : Nat) (v : List UInt8) (a : Nat) : ∀ b, advS k (advS k v a) b = advS k v (a + b)
  | 0 => rfl
  | b + 1 => by rw [advS, advS_add k v a b, show a + (b + 1) = (a + b) + 1 from rfl, advS]
theorem advS_length (k : Nat) (v : List UInt8) (h : v.length = 16) : ∀ n, (advS k v n).length = 16
  | 0 => h
  | _ + 1 => digestS_length _ _
def wotsL : List UInt8 := [119, 111, 116, 115]
def startS (seed : List UInt8) (index : Int) (k : Nat) : List UInt8 := deriveS seed wotsL [wInt index, wInt k]
theorem startS_length (seed : List UInt8) (index : Int) (k : Nat) : (startS seed index k).length = 16 := deriveS_length _ _ _
def endsS (f : Nat → List UInt8) (n : Nat) : List UInt8 := (List.range n).flatMap f
def keyOf (f : Nat → List UInt8) : List UInt8 := digestS 4 [endsS f 68]
def publicS (seed : List UInt8) (index : Int) : List UInt8 := keyOf fun k => advS k (startS seed index k) 3
def signAt (seed : List UInt8) (index : Int) (m : List UInt8) (k : Nat) : List UInt8 := advS k (startS seed index k) (digC m k)
def recoverS (m : List UInt8) (c : Nat → List UInt8) : List UInt8 := keyOf fun k => advS k (c k) (3 - digC m k)
theorem wots_verifies (seed : List UInt8) (index : Int) (m : List UInt8) : recoverS m (signAt seed index m) = publicS seed index := by
  unfold recoverS publicS
  congr 1
  funext k
  unfold signAt
  rw [advS_add, show digC m k + (3 - digC m k) = 3 from by have := digC_le m k; omega]
end Go.Proofs.YtihghljfmlbfhaaDoor


namespace Go.Proofs.YtihghljfmlbfhaaDoor
open Go.RowKit
theorem and3 (n : Int) : bits .and .i64 n 3 = n % 4 := by
  have h3 : (BitVec.ofInt 64 3).toNat = 2 ^ 2 - 1 := by decide
  have key : (BitVec.ofInt 64 n &&& BitVec.ofInt 64 3).toNat = (n % ((2 ^ 64 : Nat) : Int)).toNat % 2 ^ 2 := by
    rw [BitVec.toNat_and, BitVec.toNat_ofInt, h3, Nat.and_two_pow_sub_one_eq_mod]
  show IntKind.i64.wrap ((BitVec.ofInt 64 n &&& BitVec.ofInt 64 3).toNat : Nat) = n % 4
  rw [key, IntKind.wrap_i64]
  omega
def icells (f : Nat → Nat) (n : Nat) : List Value := (List.range n).map fun j => Value.int .i64 ((f j : Nat) : Int)
theorem icells_length (f : Nat → Nat) (n : Nat) : (icells f n).length = n := by unfold icells; simp
theorem icells_get (f : Nat → Nat) {n k : Nat} (h : k < n) : (icells f n)[k]? = some (.int .i64 ((f k : Nat) : Int)) := by
  unfold icells
  rw [List.getElem?_map, List.getElem?_range h]
  rfl
theorem icells_congr {f g : Nat → Nat} {n : Nat} (h : ∀ j, j < n → f j = g j) : icells f n = icells g n := by
  unfold icells
  apply List.map_congr_left
  intro j hj
  rw [h j (List.mem_range.1 hj)]
theorem icells_set (f g : Nat → Nat) {n k : Nat} (v : Nat) (hk : k < n) (h : ∀ j, j < n → g j = if j = k then v else f j) : (icells f n).toArray.setIfInBounds k (.int .i64 (v : Int)) = (icells g n).toArray := by
  apply Array.ext_getElem?
  intro j
  rw [Array.getElem?_setIfInBounds]
  simp only [List.size_toArray, icells_length, List.getElem?_toArray]
  by_cases hj : k = j
  · subst hj
    rw [if_pos rfl, if_pos hk, icells_get g hk, h k hk, if_pos rfl]
  · rw [if_neg hj]
    rcases Nat.lt_or_ge j n with hlt | hge
    · rw [icells_get f hlt, icells_get g hlt, h j hlt, if_neg (fun e => hj e.symm)]
    · rw [List.getElem?_eq_none (by rw [icells_length]; exact hge), List.getElem?_eq_none (by rw [icells_length]; exact hge)]
theorem icells_zero (n : Nat) : (icells (fun _ => 0) n).toArray = Array.replicate n (.int .i64 0) := by
  unfold icells
  apply Array.ext
  · simp
  · intro i h1 h2
    simp
def fillD (m : List UInt8) (k : Nat) : Nat → Nat := fun j => if j < k then dig m j else 0
def fillC (m : List UInt8) (k : Nat) : Nat → Nat := fun j => if j < 64 then dig m j else if 67 - j < k then digC m j else 0
theorem fillD_step (m : List UInt8) (k j : Nat) : fillD m (k + 1) j = if j = k then dig m k else fillD m k j := by
  unfold fillD
  by_cases h : j = k
  · subst h; rw [if_pos (by omega), if_pos rfl]
  · rw [if_neg h]
    by_cases h2 : j < k
    · rw [if_pos (by omega), if_pos h2]
    · rw [if_neg (by omega), if_neg h2]
theorem fillC_step (m : List UInt8) (k j : Nat) (hk : k < 4) (hj : j < 68) : fillC m (k + 1) j = if j = 67 - k then chk m / 4 ^ k % 4 else fillC m k j := by
  unfold fillC
  by_cases h : j = 67 - k
  · subst h
    rw [if_neg (by omega), if_pos (by omega), if_pos rfl, digC, if_neg (by omega), show 67 - (67 - k) = k from by omega]
  · rw [if_neg h]
    by_cases h1 : j < 64
    · rw [if_pos h1, if_pos h1]
    · rw [if_neg h1, if_neg h1]
      by_cases h2 : 67 - j < k
      · rw [if_pos (by omega), if_pos h2]
      · rw [if_neg (by omega), if_neg h2]
theorem fill_meet (m : List UInt8) : (icells (fillD m 64) 68) = icells (fillC m 0) 68 := icells_congr fun j hj => by
  unfold fillD fillC
  split
  · rfl
  · rw [if_neg (by omega)]
theorem fill_end (m : List UInt8) : icells (fillC m 4) 68 = icells (digC m) 68 := icells_congr fun j hj => by
  unfold fillC
  split
  · rename_i h; unfold digC; rw [if_pos h]
  · rw [if_pos (by omega)]
theorem dig_shift (m : List UInt8) (k : Nat) : dig m k = ((m.getD (k / 4) 0).toNat / 2 ^ (6 - 2 * (k % 4))) % 4 := by
  unfold dig
  congr 2
  have : k % 4 < 4 := Nat.mod_lt _ (by omega)
  rcases (by omega : k % 4 = 0 ∨ k % 4 = 1 ∨ k % 4 = 2 ∨ k % 4 = 3) with h | h | h | h <;> rw [h]
end Go.Proofs.YtihghljfmlbfhaaDoor


namespace Go.Proofs.YtihghljfmlbfhaaDoor
open Go.RowKit
set_option maxRecDepth 100000 in
set_option maxHeartbeats 2000000 in
theorem digits_any (m : List UInt8) (w : World) (hm : m.length = 16) :
    Calls Tryd.prog 28 #[.agg (m.map u8v).toArray] w fun e w' => ∃ g, e = .returned (.slice (some ⟨g, 0, none⟩) 68 68) ∧ Blk w' g 106 (icells (digC m) 68).toArray ∧ w.heap.size ≤ g ∧ Ext w w' := by
  obtain ⟨arr, harr⟩ : ∃ r, (m.map u8v).toArray = r := ⟨_, rfl⟩
  have HA := hide (And.intro harr hm)
  rw [harr]
  clear harr
  go_enter Tryd.func28, Tryd.ntmps28
  go_wp2_with fail
  go_loopw [4, 7] (fun s i wr => ∃ k : Nat, k ≤ 64 ∧ i = .int .i64 k ∧ s = .int .i64 ((sumTo m k : Nat) : Int) ∧ Hid (Blk wr w.heap.size 23 arr ∧ Blk wr (w.heap.size + 1) 106 (icells (fillD m k) 68).toArray ∧ Ext w wr)) (fun _ i _ => 64 - (intOf i).toNat)
  case atStart => exact ⟨0, by omega, rfl, rfl, hide ⟨(Blk.new w _ _).alloc _, by rw [show icells (fillD m 0) 68 = icells (fun _ => 0) 68 from icells_congr fun j _ => if_neg (by omega), icells_zero]; exact Blk.new' _ _ _ (by simp), ((Ext.refl w).alloc _).alloc _⟩⟩
  case round =>
    obtain ⟨k, hk, rfl, rfl, HI⟩ := hrel
    by_cases hlt : k < 64
    · have cm : wr.cell? ⟨w.heap.size, k / 4, none⟩ = some (.int .u8 ((m.getD (k / 4) 0).toNat : Int)) := by
        rw [(unhide HI).1.cell, ← (unhide HA).1, List.getElem?_toArray, List.getElem?_map, List.getD_eq_getElem?_getD, List.getElem?_eq_getElem (by omega)]
        rfl
      have co : wr.cell? ⟨w.heap.size + 1, k, none⟩ = some (.int .i64 0) := by
        rw [(unhide HI).2.1.cell, List.getElem?_toArray, icells_get _ (by omega), fillD, if_neg (by omega)]
        rfl
      have fo : wr.frozen? ⟨w.heap.size + 1, k, none⟩ = false := (unhide HI).2.1.frozen k
      have HS := hide (dig_shift m k)
      generalize m.getD (k / 4) 0 = x at *
      have hx := x.toNat_lt
      have hX : bits BinOp.and IntKind.i64 ((x.toNat : Int) / 2 ^ (6 - 2 * (k % 4))) 3 = ((dig m k : Nat) : Int) := by
        rw [and3, unhide HS]
        simp
      have HX := hide hX
      have hd := dig_le m k
      have hsl := sumTo_le m k
      clear hX
      go_wp2
      go_roundw
      case rel =>
        rw [unhide HX]
        refine ⟨k + 1, by omega, by go_num, int_eq ?_, hide ⟨(unhide HI).1.far' (by omega) _ _, ?_, (unhide HI).2.2.setCell (p := ⟨w.heap.size + 1, k, none⟩) (by simp) _⟩⟩
        · rw [sumTo]
          unfold wrap64
          omega
        · have := (unhide HI).2.1.set_ k (.int .i64 ((dig m k : Nat) : Int))
          rw [icells_set (fillD m k) (fillD m (k + 1)) (dig m k) (by omega) (fun j _ => fillD_step m k j)] at this
          exact this
      case measure => simp [intOf]; omega
    · obtain rfl : k = 64 := by omega
      have hc := chk_le m
      have HE := hide (fill_end m)
      rw [fill_meet] at HI
      rw [show sumTo m 64 = chk m from rfl]
      generalize hch : chk m = ch at *
      go_wp2_with fail
      go_loopw [30] (fun i wr => ∃ k : Nat, k ≤ 4 ∧ i = .int .i64 k ∧ Hid (Blk wr (w.heap.size + 1) 106 (icells (fillC m k) 68).toArray ∧ Ext w wr)) (fun i _ => 4 - (intOf i).toNat)
      case atStart => exact ⟨0, by omega, rfl, hide ⟨(unhide HI).2.1, (unhide HI).2.2⟩⟩
      case round =>
        clear HI
        obtain ⟨k, hk, rfl, HI⟩ := hrel
        by_cases hlt : k < 4
        · have co : wr.cell? ⟨w.heap.size + 1, 67 - k, none⟩ = some (.int .i64 0) := by
            rw [(unhide HI).1.cell, List.getElem?_toArray, icells_get _ (by omega), fillC, if_neg (by omega), if_neg (by omega)]
            rfl
          have fo : wr.frozen? ⟨w.heap.size + 1, 67 - k, none⟩ = false := (unhide HI).1.frozen (67 - k)
          have hX : bits BinOp.and IntKind.i64 ((ch : Int) / 2 ^ (2 * k)) 3 = ((ch / 4 ^ k % 4 : Nat) : Int) := by
            rw [and3, Int.pow_mul]
            simp
          have HX := hide hX
          clear hX
          go_wp2
          go_roundw
          case rel =>
            rw [unhide HX]
            refine ⟨k + 1, by omega, by go_num, hide ⟨?_, (unhide HI).2.setCell (p := ⟨w.heap.size + 1, 67 - k, none⟩) (by simp) _⟩⟩
            have := (unhide HI).1.set_ (67 - k) (.int .i64 ((ch / 4 ^ k % 4 : Nat) : Int))
            rw [icells_set (fillC m k) (fillC m (k + 1)) (ch / 4 ^ k % 4) (by omega) (fun j hj => by rw [← hch]; exact fillC_step m k j hlt hj)] at this
            exact this
          case measure => simp [intOf]; omega
        · obtain rfl : k = 4 := by omega
          go_wp2
          go_ret
          exact ⟨_, rfl, by rw [← unhide HE]; exact (unhide HI).1, by omega, (unhide HI).2⟩
end Go.Proofs.YtihghljfmlbfhaaDoor
