/-
  wots.Recover and wots.Sign.
-/
import Derived.Test.YtjemfefkgfoikaaDoorWotsQ
namespace Go.Proofs.YtjemfefkgfoikaaDoor
open Go.RowKit

theorem ownsRow_base {w : World} {B B' : Nat} {e : TypeId} {size : Nat} {v : Value} {n : Nat} {xs : List Value} (h : w.ownsRow B e size v n xs) (hb : B' ≤ B) : w.ownsRow B' e size v n xs := by
  refine ⟨h.1, ?_⟩
  rcases h.2 with h | ⟨g, cap, cur, h1, h2, h3⟩
  · exact .inl h
  · exact .inr ⟨g, cap, cur, h1, Nat.le_trans hb h2, h3⟩
/-- Two results, the first in a block of its own. -/
theorem results_two {P : Program} {fn : Func} {i j : Tmp} {T : TypeId} {n : Nat} (W : Wide P T n) (hf : fn.results = #[.cell i T, .tmp j]) {tmps : Array Value} {w : World} {b : Nat} {t : TypeId} {cs : Array Value} (hB : Blk w b t cs) (hn : cs.size = n) (ei : tmps.getD i undef = .pointer (some ⟨b, 0, none⟩)) {v : Value} (ej : tmps.getD j undef = v) :
    (results fn tmps).run P w = .ok (.tuple #[.agg cs, v]) w := by
  have h1 := loadVar_blk hB W hn
  subst ej
  simp only [Array.getD_eq_getD_getElem?] at ei
  simp [results, hf, ei, asAddr, h1]
theorem Digs.own_lt {w : World} {v : Value} {ds : List (List UInt8)} (h : Digs w v ds) (hn : 0 < ds.length) : ∀ k, v.ownBlock = some k → k < w.heap.size := h.2.own_lt (by omega) hn
def recV (m : List UInt8) (c : List (List UInt8)) : Value := if c.length = 68 then .tuple #[.agg ((recoverS m (chainAt c)).map u8v).toArray, .int .i64 0] else .tuple #[.agg (z16.map u8v).toArray, .int .i64 9]

set_option maxRecDepth 100000 in
set_option maxHeartbeats 4000000 in
theorem recover_no (m : List UInt8) (c : List (List UInt8)) (cv : Value) (w : World) (hc : ¬ c.length = 68) (hD : Digs w cv c) :
    Calls Tryd.prog 18 #[.agg (m.map u8v).toArray, cv] w fun e w' => e = .returned (.tuple #[.agg (z16.map u8v).toArray, .int .i64 9]) ∧ Ext w w' := by
  obtain ⟨A, c', rfl, _, _⟩ := hD.form
  obtain ⟨arr, harr⟩ : ∃ r, (m.map u8v).toArray = r := ⟨_, rfl⟩
  rw [harr]
  clear hD harr
  have hcI : ¬ (c.length : Int) = 68 := by omega
  generalize c.length = n at *
  go_enter Tryd.func18, Tryd.ntmps18
  go_wp2
  refine bodyPost_ret (v := .tuple #[.agg (z16.map u8v).toArray, .int .i64 9]) (results_two digest_wide rfl (Blk.new' _ _ _ (by simp)) rfl rfl rfl) rfl ⟨rfl, ?_⟩
  exact (((Ext.refl w).alloc _).alloc _).alloc _

set_option maxRecDepth 100000 in
set_option maxHeartbeats 4000000 in
theorem recover_yes (m : List UInt8) (c : List (List UInt8)) (cv : Value) (w : World) (hM : ShaMem w) (hm : m.length = 16) (hc : c.length = 68) (hD : Digs w cv c) :
    Calls Tryd.prog 18 #[.agg (m.map u8v).toArray, cv] w fun e w' => e = .returned (.tuple #[.agg ((recoverS m (chainAt c)).map u8v).toArray, .int .i64 0]) ∧ Ext w w' := by
  obtain ⟨A, c', rfl, _, _⟩ := hD.form
  have hlt := hD.own_lt (by omega)
  have hsl := hM.lt
  have HDg := hide (fun (W : World) => digits_any m W hm)
  have HK := hide (fun (g bl B : Nat) (W : World) (hI : RecInv m c (.slice A c.length c') (w.heap.size + 1) bl g B W) (hB : B ≤ W.heap.size) =>
    key_any (F := 41) (caps := #[.pointer (some ⟨w.heap.size + 1, 0, none⟩), .pointer (some ⟨bl, 0, none⟩)]) (f := fun k => advS k (chainAt c k) (3 - digC m k)) (Inv := RecInv m c (.slice A c.length c') (w.heap.size + 1) bl g B) (B := B)
      ⟨call_enters Tryd.func41 (by kernel_rfl) rfl, fun k W hk hI => rec1_any k m c _ _ _ _ _ W hk hc hI, fun W W' hI hC => hI.keep hC, fun k => advS_length k _ (chainAt_length hD.1 k) _⟩ W hB hI.mem hI)
  have HM := hide (And.intro hM (And.intro hD (And.intro hlt hsl)))
  obtain ⟨arr, harr⟩ : ∃ r, (m.map u8v).toArray = r := ⟨_, rfl⟩
  rw [harr] at HDg ⊢
  have HR := hide (show keyOf (fun k => advS k (chainAt c k) (3 - digC m k)) = recoverS m (chainAt c) ∧ (recoverS m (chainAt c)).length = 16 from ⟨rfl, digestS_length _ _⟩)
  obtain ⟨res, hres⟩ : ∃ r, recoverS m (chainAt c) = r := ⟨_, rfl⟩
  rw [hres] at HR ⊢
  have hasz : arr.size = 16 := by rw [← harr]; simpa using hm
  have hmf := mkfun
  rw [hc] at HK ⊢
  rw [hc] at HM
  clear hM harr hres hD hlt hsl
  go_enter Tryd.func18, Tryd.ntmps18
  go_wp2_with (refine wpList_loadB (ty := 23) (t := 23) (x := .tmp 2) rfl rfl digest_wide rfl (((Blk.new w _ _).alloc _).alloc _) hasz ?_)
  refine (unhide HDg _).mono ?_
  rintro e w1 ⟨g, rfl, hb1, hg, hE1⟩
  have H1 := hide (And.intro hb1 (And.intro ((((Ext.refl w).alloc _).alloc _).alloc _ |>.trans hE1) (And.intro (Ext.cellv hE1 (old_cell _ _ (new_cell (w.alloc (.cells arr 23)) 24 #[.slice A 68 c'] (g := w.heap.size + 1) (by simp) (i := 0) rfl))) ((Blk.new' ((w.alloc (.cells arr 23)).alloc (.cells #[.slice A 68 c'] 24)) 23 (Array.replicate 16 (.int .u8 0)) (g := w.heap.size + 1 + 1) (by simp)).ext hE1))))
  clear hb1 hE1
  have hw1 : w.heap.size + 1 + 1 < w1.heap.size := (unhide H1).2.2.2.lt
  go_wp2_with fail
  refine (unhide HK g w1.heap.size (w1.heap.size + 1) _ ⟨(unhide HM).1.ext ((unhide H1).2.1.alloc _), (unhide HM).2.1.ext ((unhide H1).2.1.alloc _), old_cell _ _ (unhide H1).2.2.1, new_cell _ _ _ rfl rfl, (unhide H1).1.alloc _, fun k hk => by have := (unhide HM).2.2.1 k hk; omega, by omega, by omega, by have := (unhide H1).1.lt; omega, by have := (unhide HM).2.2.2; omega, by have := (unhide HM).2.2.2; omega⟩ (by simp)).mono ?_
  rintro e w2 ⟨rfl, hE2⟩
  rw [(unhide HR).1]
  have H2 := hide (((Ext.refl w1).alloc _).trans hE2)
  clear hE2 hmf
  go_wp2_with (refine wpList_storeB (ty := 23) (t := 23) (x := .tmp 4) (y := .tmp 14) rfl rfl digest_wide rfl rfl ((unhide H1).2.2.2.ext (unhide H2)) rfl (by simpa using (unhide HR).2) (bytes_one _) ?_; intro w7 hb7 hc7 hz7; have H7 := hide (And.intro hb7 hc7); clear hb7 hc7 hz7)
  refine bodyPost_ret (v := .tuple #[.agg (res.map u8v).toArray, .int .i64 0]) (results_two digest_wide rfl (unhide H7).1 (by simpa using (unhide HR).2) rfl rfl) rfl ⟨rfl, ?_⟩
  exact ((unhide H1).2.1.trans (unhide H2)).trans' (unhide H7).2 (fun _ _ h => h) (fun i hi e => by omega)

theorem recover_any (m : List UInt8) (c : List (List UInt8)) (cv : Value) (w : World) (hM : ShaMem w) (hm : m.length = 16) (hD : Digs w cv c) :
    Calls Tryd.prog 18 #[.agg (m.map u8v).toArray, cv] w fun e w' => e = .returned (recV m c) ∧ Ext w w' := by
  unfold recV
  split
  · rename_i h; exact recover_yes m c cv w hM hm h hD
  · rename_i h; exact recover_no m c cv w h hD

/-- The chain values of a signature. -/
def signS (seed : List UInt8) (index : Int) (m : List UInt8) (n : Nat) : List (List UInt8) := (List.range n).map (signAt seed index m)
theorem signAt_length (seed : List UInt8) (index : Int) (m : List UInt8) (k : Nat) : (signAt seed index m k).length = 16 := advS_length k _ (startS_length _ _ _) _
theorem signS_step (seed : List UInt8) (index : Int) (m : List UInt8) (n : Nat) : signS seed index m (n + 1) = signS seed index m n ++ [signAt seed index m n] := by unfold signS; rw [List.range_succ, List.map_append]; rfl
theorem signS_length (seed : List UInt8) (index : Int) (m : List UInt8) (n : Nat) : (signS seed index m n).length = n := by unfold signS; simp
theorem signS_16 (seed : List UInt8) (index : Int) (m : List UInt8) (n : Nat) : D16 (signS seed index m n) := fun d hd => by
  unfold signS at hd
  obtain ⟨k, _, rfl⟩ := List.mem_map.1 hd
  exact signAt_length _ _ _ _

set_option maxRecDepth 100000 in
set_option maxHeartbeats 4000000 in
theorem sign_any (seed : List UInt8) (index : Int) (m : List UInt8) (w : World) (hM : ShaMem w) (hv : seed.length = 16) (hm : m.length = 16) (h1 : -9223372036854775808 ≤ index) (h2 : index < 9223372036854775808) :
    Calls Tryd.prog 23 #[.agg (seed.map u8v).toArray, .int .i64 index, .agg (m.map u8v).toArray] w fun e w' => ∃ A c, e = .returned (.slice A 68 c) ∧ GD w w.heap.size (.slice A 68 c) 68 (signS seed index m 68) w' := by
  have HDg := hide (fun (W : World) => digits_any m W hm)
  have HS := hide (fun k (hk : k < 68) (W : World) (hE : Ext w W) => start_any k seed index W (hM.ext hE) hv (by omega) h1 h2)
  have HA := hide (fun k (hk : k < 68) (W : World) (hE : Ext w W) => adv_any k (digC m k) (startS seed index k) W (hM.ext hE) (startS_length _ _ _) (by omega) (by have := digC_le m k; omega))
  have HL := hide (signAt_length seed index m)
  have HT := hide (signS_step seed index m)
  have HG := hide (fun k (hk : k < 68) => icells_get (digC m) hk)
  have HQ := hide (fun k => show advS k (startS seed index k) (digC m k) = signAt seed index m k from rfl)
  obtain ⟨arr, harr⟩ : ∃ r, (seed.map u8v).toArray = r := ⟨_, rfl⟩
  obtain ⟨marr, hmarr⟩ : ∃ r, (m.map u8v).toArray = r := ⟨_, rfl⟩
  rw [harr] at HS ⊢
  rw [hmarr] at HDg ⊢
  have HSZ := hide (show arr.size = 16 ∧ marr.size = 16 from by rw [← harr, ← hmarr]; simp; omega)
  clear hM harr hmarr hv hm
  go_enter Tryd.func23, Tryd.ntmps23
  go_wp2_with (refine wpList_loadB (ty := 23) (t := 23) (x := .tmp 5) rfl rfl digest_wide rfl (Blk.new' _ _ _ (by simp)) (unhide HSZ).2 ?_)
  refine (unhide HDg _).mono ?_
  rintro e w1 ⟨g, rfl, hb1, hg, hE1⟩
  have H1 := hide (And.intro hb1 (And.intro ((((Ext.refl w).alloc _).alloc _).trans hE1) (((Blk.new w 23 arr).alloc _).ext hE1)))
  clear hb1 hE1 hg
  go_wp2_with fail
  go_loopw [7, 13] (fun b i wr => ∃ (k : Nat) (A : Option Addr) (c : Nat), k ≤ 68 ∧ i = .int .i64 k ∧ b = .slice A k c ∧ Hid (GD w w1.heap.size (.slice A k c) k (signS seed index m k) wr ∧ Blk wr w.heap.size 23 arr ∧ Blk wr g 68 (icells (digC m) 68).toArray)) (fun _ i _ => 68 - (intOf i).toNat)
  case atStart => exact ⟨0, none, 0, by omega, rfl, rfl, hide ⟨GD.nil (unhide H1).2.1 (unhide H1).2.1.size' (Nat.le_refl _), (unhide H1).2.2, (unhide H1).1⟩⟩
  case round =>
    obtain ⟨k, A, c, hk, rfl, rfl, HI⟩ := hrel
    by_cases hlt : k < 68
    · have cg : wr.cell? ⟨g, k, none⟩ = some (.int .i64 ((digC m k : Nat) : Int)) := by rw [(unhide HI).2.2.cell, List.getElem?_toArray]; exact unhide HG k hlt
      have HSk := hide (unhide HS k hlt)
      have HAk := hide (unhide HA k hlt)
      have HLk := hide (unhide HL k)
      have HTk := hide (unhide HT k)
      rw [unhide HQ k] at HAk
      generalize digC m k = dk at *
      generalize hst : ((startS seed index k).map u8v).toArray = st at *
      generalize signAt seed index m k = d at *
      have hkI : (k : Int) < 68 := by omega
      go_wp2_with (refine wpList_loadB (ty := 23) (t := 23) (x := .tmp 3) rfl rfl digest_wide rfl (unhide HI).2.1 (unhide HSZ).1 ?_)
      refine (unhide HSk _ (unhide HI).1.ext).mono ?_
      rintro e w2 ⟨rfl, hE2⟩
      have H2 := hide hE2
      clear hE2
      go_wp2_with fail
      refine (unhide HAk _ ((unhide HI).1.ext.trans (unhide H2))).mono ?_
      rintro e w3 ⟨rfl, hE3⟩
      have H3 := hide ((unhide H2).trans hE3)
      clear hE3
      go_wp2_with (first | (refine wpList_build1 (t := 24) (x := .tmp 25) rfl digs_row (by omega) rfl rfl (by simpa using unhide HLk) ?_) | at_builtin; refine wpList_app rfl rfl digs_row rfl ((unhide HI).1.to ((unhide H3).alloc _)).own rfl (Reads.newD _ _ _ (unhide HLk) rfl) (AllOne.u8 d) (by omega) ((unhide HI).1.to ((unhide H3).alloc _)).room ?_; intro A' c' w4 ho hc4 hv; have H4 := hide (And.intro ho hc4); clear ho hc4 hv)
      go_roundw
      case rel =>
        refine ⟨k + 1, A', c', by omega, by go_num, rfl, hide ⟨by rw [unhide HTk]; exact (unhide HI).1.step (unhide HLk) ((unhide H3).alloc _) (unhide H4).2 (unhide H4).1, ?_, ?_⟩⟩
        · exact ((unhide HI).2.1.ext ((unhide H3).alloc _)).chg (unhide H4).2 (fun e => by have h5 := ((unhide HI).1.own.lt _ e).1; have h6 := (unhide H1).2.2.lt; omega)
        · exact ((unhide HI).2.2.ext ((unhide H3).alloc _)).chg (unhide H4).2 (fun e => by have h5 := ((unhide HI).1.own.lt _ e).1; have h6 := (unhide H1).1.lt; omega)
      case measure => simp [intOf]; omega
    · obtain rfl : k = 68 := by omega
      go_wp2
      go_ret
      exact ⟨A, c, rfl, ⟨ownsRow_base (unhide HI).1.own (unhide H1).2.1.size', (unhide HI).1.all, (unhide HI).1.ext, Nat.le_refl _, (unhide HI).1.ext.size'⟩⟩

end Go.Proofs.YtjemfefkgfoikaaDoor
