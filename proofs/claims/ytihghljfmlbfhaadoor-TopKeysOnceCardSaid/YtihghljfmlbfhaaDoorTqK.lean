/-
  Several texts in one file: each has its own heading below.
-/
import Derived.Test.YtihghljfmlbfhaaDoorTqI
import Derived.Test.YtihghljfmlbfhaaDoorTqH
import Derived.Test.YtihghljfmlbfhaaDoorTqJ
import Derived.Deep.Cut


namespace Go.Proofs.YtihghljfmlbfhaaDoor
open Go.RowKit
def bcells (l : List Bool) : List Value := l.map .bool
theorem bools_row : SlTy Tryd.prog 87 4 1 1 := SlTy.mk' (z := .bool false) (by kernel_rfl) (by kernel_rfl) rfl (by omega) (by omega)
def Down (n0 i0 : Nat) (ss : List Bool) (n i : Nat) : Prop := i < n ∧ sidesS n0 i0 = ss ++ sidesS n i ∧ ss.length + n ≤ n0
theorem Down.left {n0 i0 n i : Nat} {ss : List Bool} (h : Down n0 i0 ss n i) (h1 : 1 < n) (hk : i < splitS n) : Down n0 i0 (ss ++ [true]) (splitS n) i := by
  have hb := splitS_bounds n h1
  obtain ⟨h2, h3, h4⟩ := h
  refine ⟨hk, by rw [h3, sidesS_left n i h1 hk, List.append_assoc]; rfl, by rw [List.length_append]; simp; omega⟩
theorem Down.right {n0 i0 n i : Nat} {ss : List Bool} (h : Down n0 i0 ss n i) (h1 : 1 < n) (hk : ¬ i < splitS n) : Down n0 i0 (ss ++ [false]) (n - splitS n) (i - splitS n) := by
  have hb := splitS_bounds n h1
  obtain ⟨h2, h3, h4⟩ := h
  refine ⟨by omega, by rw [h3, sidesS_right n i h1 hk, List.append_assoc]; rfl, by rw [List.length_append]; simp; omega⟩
theorem Down.stop {n0 i0 n i : Nat} {ss : List Bool} (h : Down n0 i0 ss n i) (h1 : ¬ 1 < n) : ss = sidesS n0 i0 := by
  rw [h.2.1, sidesS_one n i (by omega), List.append_nil]
structure Up (w : World) (bs : Nat) (ra : Array Value) (ps : List (List UInt8)) (pv sv : Value) (sd : List Bool) (g : Nat) (d : List UInt8) (wr : World) : Prop where
  ext : Ext w wr
  root : Blk wr w.heap.size 23 ra
  path : Digs wr pv ps
  side : Reads wr 1 sv sd.length (bcells sd)
  cell : Blk wr g 23 (d.map u8v).toArray
  lt : w.heap.size < g ∧ (0 < ps.length → ∀ k, pv.ownBlock = some k → k < g) ∧ (∀ k, sv.ownBlock = some k → k < g) ∧ bs < g
theorem Up.to {w : World} {bs : Nat} {ra : Array Value} {ps : List (List UInt8)} {pv sv : Value} {sd : List Bool} {g : Nat} {d : List UInt8} {wr wr' : World} (h : Up w bs ra ps pv sv sd g d wr) (hE : Ext wr wr') : Up w bs ra ps pv sv sd g d wr' :=
  ⟨h.ext.trans hE, h.root.ext hE, h.path.ext hE, h.side.ext hE, h.cell.ext hE, h.lt⟩
theorem Up.store {w : World} {bs : Nat} {ra : Array Value} {ps : List (List UInt8)} {pv sv : Value} {sd : List Bool} {g : Nat} {d d' : List UInt8} {wr wr' : World} (h : Up w bs ra ps pv sv sd g d wr) (hc : Chg (fun k => k = g) wr wr') (hb : Blk wr' g 23 (d'.map u8v).toArray) : Up w bs ra ps pv sv sd g d' wr' := by
  obtain ⟨l1, l2, l3, l4⟩ := h.lt
  exact ⟨h.ext.trans' hc (fun _ _ h => h) (fun i hi e => by omega), h.root.chg hc (by omega), ⟨h.path.1, h.path.2.chg hc (fun k hp hk e => by have := l2 hp k hk; omega)⟩, h.side.chg hc (fun k _ hk e => by have := l3 k hk; omega), hb, h.lt⟩
set_option maxRecDepth 100000 in
set_option maxHeartbeats 8000000 in
theorem mverify_in (root leaf : List UInt8) (n i : Nat) (ps : List (List UInt8)) (pv : Value) (w : World) (hM : ShaMem w) (hr : root.length = 16) (hl : leaf.length = 16) (hn : n ≤ 100000) (hpl : ps.length ≤ 100000) (hD : Digs w pv ps) (h : i < n) :
    Calls Tryd.prog 17 #[.agg (root.map u8v).toArray, .int .i64 (n : Int), .int .i64 (i : Int), .agg (leaf.map u8v).toArray, pv] w fun e w' => e = .returned (.bool (verifyS root n i leaf ps)) ∧ Ext w w' := by
  have HM := hide hM
  have HD := hide hD
  have HSp := hide (fun (m : Nat) W (h1 : 1 < m) (h2 : m ≤ 100000) => split_any m W h1 (by omega))
  have HLf := hide (fun W (hE : Ext w W) => leaf_any leaf W (hM.ext hE) hl)
  have HV := hide (show verifyS root n i leaf ps = (decide (i < n) && (decide ((sidesS n i).length = ps.length) && decide (foldS (leafS leaf) (sidesS n i).reverse ps = root))) from rfl)
  have HDown := hide (show Down n i [] n i from ⟨h, rfl, by simp⟩)
  obtain ⟨res, hres⟩ : ∃ b, verifyS root n i leaf ps = b := ⟨_, rfl⟩
  rw [hres] at HV ⊢
  obtain ⟨A0, c0, rfl, hc01, hc02⟩ := hD.form
  obtain ⟨ra, hra⟩ : ∃ x, (root.map u8v).toArray = x := ⟨_, rfl⟩
  obtain ⟨la, hla⟩ : ∃ x, (leaf.map u8v).toArray = x := ⟨_, rfl⟩
  rw [hla] at HLf
  have HRA := hide hra
  have HSZ := hide (show ra.size = 16 ∧ la.size = 16 ∧ (leafS leaf).length = 16 from by rw [← hra, ← hla]; exact ⟨by simpa using hr, by simpa using hl, leafS_length _⟩)
  rw [hra, hla]
  obtain ⟨lf, hlf⟩ : ∃ x, leafS leaf = x := ⟨_, rfl⟩
  rw [hlf] at HV HLf HSZ
  have HRL := hide hr
  have hi0 : ¬ (i : Int) < 0 := by omega
  have hin : ¬ (n : Int) ≤ (i : Int) := by omega
  have HZ := hide (show Ext w ((w.alloc (.cells ra 23)).alloc (.cells la 23)) ∧ Blk ((w.alloc (.cells ra 23)).alloc (.cells la 23)) w.heap.size 23 ra ∧ Blk ((w.alloc (.cells ra 23)).alloc (.cells la 23)) (w.heap.size + 1) 23 la ∧ ((w.alloc (.cells ra 23)).alloc (.cells la 23)).heap.size = w.heap.size + 2 from ⟨((Ext.refl w).alloc _).alloc _, (Blk.new w _ _).alloc _, Blk.new' _ _ _ (by simp), by simp⟩)
  clear hM hD hres hra hla hlf hr hl h
  go_enter Tryd.func17, Tryd.ntmps17
  go_wp2_with fail
  generalize hW0 : ((w.alloc (.cells ra 23)).alloc (.cells la 23)) = W0 at *
  clear hW0
  go_loopw [1, 2, 11] (fun x y b wr => ∃ (m j k : Nat) (A : Option Addr) (c : Nat) (ss : List Bool), x = .int .i64 m ∧ y = .int .i64 j ∧ b = .slice A k c ∧ m ≤ 100000 ∧ k + m ≤ 100000 ∧ j < m ∧ Hid (ss.length = k ∧ Down n i ss m j ∧ wr.ownsRow (w.heap.size + 2) 4 1 (.slice A k c) k (bcells ss) ∧ Ext W0 wr)) (fun x _ _ _ => (intOf x).toNat)
  case atStart => exact ⟨n, i, 0, none, 0, [], rfl, rfl, rfl, hn, by omega, (unhide HDown).1, hide ⟨rfl, unhide HDown, World.ownsRow_nil _ _ _ _, Ext.refl _⟩⟩
  case round =>
    obtain ⟨m, j, k, A, c, ss, rfl, rfl, rfl, hm, hk, hjm, HI⟩ := hrel
    by_cases h1 : 1 < m
    · have hb := splitS_bounds m h1
      have HS1 := hide (fun W => unhide HSp m W h1 hm)
      have HDo := hide (show (j < splitS m → Down n i (ss ++ [true]) (splitS m) j) ∧ (¬ j < splitS m → Down n i (ss ++ [false]) (m - splitS m) (j - splitS m)) from ⟨fun hk => (unhide HI).2.1.left h1 hk, fun hk => (unhide HI).2.1.right h1 hk⟩)
      have h1I : (1 : Int) < (m : Int) := by omega
      generalize splitS m = q at *
      by_cases hj : j < q
      · have hjI : (j : Int) < (q : Int) := by omega
        go_wp2_with (first
          | (go_at_call 20; refine (unhide HS1 _).mono ?_; rintro e wz ⟨rfl, rfl⟩)
          | (at_builtin; refine wpList_app rfl rfl bools_row rfl (ownsRow_ext (unhide HI).2.2.1 ((Ext.refl wr).alloc _)) rfl (Reads.new1' _ _ _ (g := wr.heap.size) rfl) (AllOne.one rfl) (by omega) (by have := (unhide HI).2.2.2.size'; have := (unhide HZ).2.2.2; simp; omega) ?_; intro A' c' w4 ho hc4 hv; have H4 := hide (And.intro ho hc4); clear ho hc4 hv))
        go_roundw
        case rel => exact ⟨q, j, k + 1, A', c', ss ++ [true], rfl, rfl, rfl, by omega, by omega, hj, hide ⟨by rw [List.length_append, (unhide HI).1]; rfl, (unhide HDo).1 hj, by have := (unhide H4).1; unfold bcells at this ⊢; rw [List.map_append]; exact this, (((unhide HI).2.2.2.alloc _).trans' (unhide H4).2 (fun _ _ h => h) (fun x hx e => by have := ((unhide HI).2.2.1.lt x e).1; have := (unhide HZ).2.2.2; omega))⟩⟩
        case measure => simp [intOf]; omega
      · have hjI : ¬ (j : Int) < (q : Int) := by omega
        go_wp2_with (first
          | (go_at_call 20; refine (unhide HS1 _).mono ?_; rintro e wz ⟨rfl, rfl⟩)
          | (at_builtin; refine wpList_app rfl rfl bools_row rfl (ownsRow_ext (unhide HI).2.2.1 ((Ext.refl wr).alloc _)) rfl (Reads.new1' _ _ _ (g := wr.heap.size) rfl) (AllOne.one rfl) (by omega) (by have := (unhide HI).2.2.2.size'; have := (unhide HZ).2.2.2; simp; omega) ?_; intro A' c' w4 ho hc4 hv; have H4 := hide (And.intro ho hc4); clear ho hc4 hv))
        go_roundw
        case rel => exact ⟨m - q, j - q, k + 1, A', c', ss ++ [false], int_eq (by omega), int_eq (by omega), rfl, by omega, by omega, by omega, hide ⟨by rw [List.length_append, (unhide HI).1]; rfl, (unhide HDo).2 hj, by have := (unhide H4).1; unfold bcells at this ⊢; rw [List.map_append]; exact this, (((unhide HI).2.2.2.alloc _).trans' (unhide H4).2 (fun _ _ h => h) (fun x hx e => by have := ((unhide HI).2.2.1.lt x e).1; have := (unhide HZ).2.2.2; omega))⟩⟩
        case measure => simp [intOf]; omega
    · have HST := hide ((unhide HI).2.1.stop h1)
      have h1I : ¬ (1 : Int) < (m : Int) := by omega
      by_cases hkp : k = ps.length
      · subst hkp
        have HF := hide (show res = decide (foldS lf (sidesS n i).reverse ps = root) from by
          rw [unhide HV, decide_eq_true (by have := (unhide HDown).1; exact this), decide_eq_true (show (sidesS n i).length = ps.length from by rw [← unhide HST, (unhide HI).1]), Bool.true_and, Bool.true_and])
        generalize hsd : sidesS n i = sd at *
        obtain rfl : ss = sd := unhide HST
        clear hsd
        go_wp2_with (first
          | (refine wpList_loadB (ty := 23) (t := 23) (x := .tmp 8) rfl rfl digest_wide rfl (cs := la) ((unhide HZ).2.2.1.ext (unhide HI).2.2.2) (unhide HSZ).2.1 ?_)
          | (go_at_call 19; refine (unhide HLf _ ((unhide HZ).1.trans (unhide HI).2.2.2)).mono ?_; rintro e w5 ⟨rfl, hE5⟩; have H5 := hide hE5; clear hE5)
          | (refine wpList_storeB (ty := 23) (t := 23) (x := .tmp 13) (y := .tmp 49) rfl rfl digest_wide rfl rfl (Blk.new w5 _ _) rfl (by simpa using (unhide HSZ).2.2) (bytes_one _) ?_; intro w7 hb7 hc7 hz7; have H7 := hide (And.intro hb7 (made_ext (unhide H5) hc7)); clear hb7 hc7 hz7))
        have HU := hide (show Up w 0 ra ps (.slice A0 ps.length c0) (.slice A ps.length c) ss w5.heap.size lf w7 from
          ⟨(unhide HZ).1.trans ((unhide HI).2.2.2.trans (unhide H7).2), (unhide HZ).2.1.ext ((unhide HI).2.2.2.trans (unhide H7).2), (unhide HD).ext ((unhide HZ).1.trans ((unhide HI).2.2.2.trans (unhide H7).2)),
            by have := (Reads.of_own (unhide HI).2.2.1).ext (unhide H7).2; rw [← (unhide HI).1] at this; rw [← (unhide HI).1]; exact this, (unhide H7).1, by
            have l1 := (unhide HZ).2.2.2
            have l2 := (unhide HI).2.2.2.size'
            have l3 := (unhide H5).size'
            refine ⟨by omega, fun hp0 x hx => ?_, fun x hx => ?_, by omega⟩
            · have := (unhide HD).own_lt hp0 x hx; omega
            · have := ((unhide HI).2.2.1.lt x hx).2; omega⟩)
        have HJ := hide (fun (lr : List UInt8 × List UInt8) W (hE : Ext w W) (h1 : lr.1.length = 16) (h2 : lr.2.length = 16) => node_any lr.1 lr.2 W ((unhide HM).ext hE) h1 h2)
        have HKL := hide (unhide HI).1
        have hkl1 : ss.length ≤ ps.length := by have := unhide HKL; omega
        have hkl2 : ps.length ≤ ss.length := by have := unhide HKL; omega
        have hsl : ps.length ≤ ss.reverse.length ∧ ss.reverse.length ≤ ps.length := by rw [List.length_reverse]; omega
        have HFT := hide (fun j (hj : j < ps.length) => foldS_take lf ss.reverse ps j (by omega) (by omega))
        have HFL := hide (fun j => foldS_length lf (unhide HSZ).2.2 (ss.reverse.take j) (ps.take j))
        have HF0 := hide (show foldS lf (ss.reverse.take 0) (ps.take 0) = lf from rfl)
        have HFK := hide (show foldS lf (ss.reverse.take ps.length) (ps.take ps.length) = foldS lf ss.reverse ps from by rw [List.take_of_length_le (by omega), List.take_of_length_le (by omega)])
        obtain ⟨g5, hg5⟩ : ∃ x, w5.heap.size = x := ⟨_, rfl⟩
        rw [hg5] at HU ⊢
        clear HI H5 hg5
        go_wp2_with fail
        go_loopw [52] (fun x wr => ∃ j : Nat, x = .int .i64 j ∧ j ≤ ps.length ∧ Hid (Up w 0 ra ps (.slice A0 ps.length c0) (.slice A ps.length c) ss g5 (foldS lf (ss.reverse.take j) (ps.take j)) wr)) (fun x _ => ps.length - (intOf x).toNat)
        case atStart => exact ⟨0, rfl, by omega, hide (by rw [unhide HF0]; exact unhide HU)⟩
        case round =>
          obtain ⟨j, rfl, hj, HUp⟩ := hrel
          by_cases hlt : j < ps.length
          · obtain ⟨b, o, c', hv, _, _, hbl, hR⟩ := (unhide HUp).path.at (k := j) (by omega)
            cases hv
            have hS := (unhide HUp).side
            rw [unhide HKL] at hS
            obtain ⟨b2, o2, c2, u, hv, _, _, hb2, hu, hcu⟩ := hS.at1 (k := ps.length - 1 - j) (by omega)
            cases hv
            have hT := unhide HFT j hlt
            have hsj : ss[ps.length - 1 - j]? = some ss.reverse[j] := by
              have := List.getElem?_reverse (l := ss) (i := j) (by omega)
              rw [List.getElem?_eq_getElem (by omega), unhide HKL] at this
              exact this.symm
            obtain ⟨s, hs⟩ : ∃ s, ss.reverse[j] = s := ⟨_, rfl⟩
            rw [hs] at hT hsj
            obtain rfl : u = .bool s := by
              unfold bcells at hu
              rw [List.getElem?_map, hsj] at hu
              exact (Option.some.inj hu).symm
            have hp16 := (unhide HUp).path.1.get (k := j) (by omega)
            have hd16 := unhide HFL j
            obtain ⟨p, hp⟩ : ∃ p, ps[j] = p := ⟨_, rfl⟩
            obtain ⟨d, hd⟩ : ∃ d, foldS lf (ss.reverse.take j) (ps.take j) = d := ⟨_, rfl⟩
            rw [hp] at hT hp16 hR
            rw [hd] at hT hd16 HUp
            have HR := hide (show (p.map u8v).length = 16 ∧ wr.rangeAt b (o + j * 16) (p.map u8v) ∧ p.length = 16 ∧ d.length = 16 from ⟨by simpa using hp16, hR, hp16, hd16⟩)
            have HC := hide (And.intro hcu hb2)
            obtain ⟨nd, hnd⟩ : ∃ x, foldS lf (ss.reverse.take (j + 1)) (ps.take (j + 1)) = x := ⟨_, rfl⟩
            rw [hnd] at hT
            have HN := hide hnd
            clear hR hcu hu hsj hs hp hd hp16 hd16 hS hnd hb2
            have hjI : (j : Int) < (ps.length : Int) := by omega
            cases s
            · have HT := hide (show nd = nodeS p d ∧ nd.length = 16 from ⟨hT, by rw [hT]; exact nodeS_length _ _⟩)
              clear hT
              go_wp2_with (first
                | (refine wpList_loadMG (by rfl) (ty := 23) (x := .tmp 55) rfl digest_wide rfl (unhide HR).2.1 (unhide HR).1 ?_)
                | (refine wpList_storeB (ty := 23) (t := 23) (x := .tmp 15) (y := .tmp 56) rfl rfl digest_wide rfl rfl (Blk.new wr _ _) rfl (by simpa using (unhide HR).1) (bytes_one _) ?_; intro w8 hb8 hc8 hz8; have H8 := hide (And.intro hb8 (made_ext1 hc8)); have hcs := Ext.cellv (unhide H8).2 (unhide HC).1; clear hb8 hc8 hz8)
                | (refine wpList_loadB (ty := 23) (t := 23) (x := .tmp 13) rfl rfl digest_wide rfl (cs := (d.map u8v).toArray) ((unhide HUp).to (unhide H8).2).cell (by simpa using (unhide HR).2.2.2) ?_)
                | (refine wpList_loadB (ty := 23) (t := 23) (x := .tmp 15) rfl rfl digest_wide rfl (cs := (p.map u8v).toArray) (unhide H8).1 (by simpa using (unhide HR).2.2.1) ?_)
                | (go_at_call 21; refine (unhide HJ (p, d) _ ((unhide HUp).to (unhide H8).2).ext (unhide HR).2.2.1 (unhide HR).2.2.2).mono ?_; rintro e w9 ⟨rfl, hE9⟩; rw [← (unhide HT).1]; have H9 := hide ((unhide HUp).to ((unhide H8).2.trans hE9)); clear hE9)
                | (refine wpList_storeB (ty := 23) (t := 23) (x := .tmp 13) (y := .tmp 70) rfl rfl digest_wide rfl rfl (unhide H9).cell (by simpa using (unhide HR).2.2.2) (by simpa using (unhide HT).2) (bytes_one _) ?_; intro w10 hb10 hc10 hz10; have H10 := hide ((unhide H9).store hc10 hb10); clear hb10 hc10 hz10))
              go_roundw
              case rel => exact ⟨j + 1, by go_num, by omega, hide (by rw [unhide HN]; exact unhide H10)⟩
              case measure => simp [intOf]; omega
            · have HT := hide (show nd = nodeS d p ∧ nd.length = 16 from ⟨hT, by rw [hT]; exact nodeS_length _ _⟩)
              clear hT
              go_wp2_with (first
                | (refine wpList_loadMG (by rfl) (ty := 23) (x := .tmp 55) rfl digest_wide rfl (unhide HR).2.1 (unhide HR).1 ?_)
                | (refine wpList_storeB (ty := 23) (t := 23) (x := .tmp 15) (y := .tmp 56) rfl rfl digest_wide rfl rfl (Blk.new wr _ _) rfl (by simpa using (unhide HR).1) (bytes_one _) ?_; intro w8 hb8 hc8 hz8; have H8 := hide (And.intro hb8 (made_ext1 hc8)); have hcs := Ext.cellv (unhide H8).2 (unhide HC).1; clear hb8 hc8 hz8)
                | (refine wpList_loadB (ty := 23) (t := 23) (x := .tmp 13) rfl rfl digest_wide rfl (cs := (d.map u8v).toArray) ((unhide HUp).to (unhide H8).2).cell (by simpa using (unhide HR).2.2.2) ?_)
                | (refine wpList_loadB (ty := 23) (t := 23) (x := .tmp 15) rfl rfl digest_wide rfl (cs := (p.map u8v).toArray) (unhide H8).1 (by simpa using (unhide HR).2.2.1) ?_)
                | (go_at_call 21; refine (unhide HJ (d, p) _ ((unhide HUp).to (unhide H8).2).ext (unhide HR).2.2.2 (unhide HR).2.2.1).mono ?_; rintro e w9 ⟨rfl, hE9⟩; rw [← (unhide HT).1]; have H9 := hide ((unhide HUp).to ((unhide H8).2.trans hE9)); clear hE9)
                | (refine wpList_storeB (ty := 23) (t := 23) (x := .tmp 13) (y := .tmp 67) rfl rfl digest_wide rfl rfl (unhide H9).cell (by simpa using (unhide HR).2.2.2) (by simpa using (unhide HT).2) (bytes_one _) ?_; intro w10 hb10 hc10 hz10; have H10 := hide ((unhide H9).store hc10 hb10); clear hb10 hc10 hz10))
              go_roundw
              case rel => exact ⟨j + 1, by go_num, by omega, hide (by rw [unhide HN]; exact unhide H10)⟩
              case measure => simp [intOf]; omega
          · obtain rfl : j = ps.length := by omega
            obtain ⟨d, hd⟩ : ∃ d, foldS lf (ss.reverse.take ps.length) (ps.take ps.length) = d := ⟨_, rfl⟩
            have hd16 := unhide HFL ps.length
            rw [hd] at HUp hd16
            have HE := hide (show res = decide (d = root) from by rw [unhide HF, ← unhide HFK, hd])
            have HX := hide (show (d.map u8v).toArray.size = 16 from by simpa using hd16)
            have heq := fun W => eq16 hd16 (unhide HRL) W
            rw [unhide HRA] at heq
            obtain ⟨da, hda⟩ : ∃ x, (d.map u8v).toArray = x := ⟨_, rfl⟩
            rw [hda] at HX heq
            have HB := hide (show Blk wr g5 23 da from by rw [← hda]; exact (unhide HUp).cell)
            rw [← unhide HE] at heq
            clear HE hd hd16 hda
            go_wp2_with (first
              | (refine wpList_loadB (ty := 23) (t := 23) (x := .tmp 13) rfl rfl digest_wide rfl (unhide HB) (unhide HX) ?_)
              | (refine wpList_loadB (ty := 23) (t := 23) (x := .tmp 5) rfl rfl digest_wide rfl (unhide HUp).root (unhide HSZ).1 ?_))
            go_ret
            exact ⟨rfl, (unhide HUp).ext⟩
      · have hkI : ¬ (k : Int) = (ps.length : Int) := by omega
        have HF := hide (show res = false from by rw [unhide HV, decide_eq_false (show ¬ (sidesS n i).length = ps.length from by rw [← unhide HST, (unhide HI).1]; exact hkp)]; simp)
        obtain rfl : res = false := unhide HF
        clear HF
        go_wp2
        go_ret
        exact ⟨rfl, (unhide HZ).1.trans (unhide HI).2.2.2⟩
end Go.Proofs.YtihghljfmlbfhaaDoor


namespace Go.Proofs.YtihghljfmlbfhaaDoor
open Go.RowKit
structure VI (w : World) (ra ma : Array Value) (index : Int) (cv pv : Value) (W : World) : Prop where
  ext : Ext w W
  root : Blk W w.heap.size 23 ra
  msg : Blk W (w.heap.size + 1) 23 ma
  sig : Blk W (w.heap.size + 1 + 1) 45 #[.int .i64 index, cv, pv]
theorem VI.to {w : World} {ra ma : Array Value} {index : Int} {cv pv : Value} {W W' : World} (h : VI w ra ma index cv pv W) (hE : Ext W W') : VI w ra ma index cv pv W' := ⟨h.ext.trans hE, h.root.ext hE, h.msg.ext hE, h.sig.ext hE⟩
theorem VI.start (w : World) (ra ma : Array Value) (index : Int) (cv pv : Value) : VI w ra ma index cv pv (((w.alloc (.cells ra 23)).alloc (.cells ma 23)).alloc (.cells #[.int .i64 index, cv, pv] 45)) :=
  ⟨(((Ext.refl w).alloc _).alloc _).alloc _, ((Blk.new w _ _).alloc _).alloc _, (Blk.new' _ _ _ (by simp)).alloc _, Blk.new' _ _ _ (by simp)⟩
theorem VI.cells {w : World} {ra ma : Array Value} {index : Int} {cv pv : Value} {W : World} (h : VI w ra ma index cv pv W) : W.cell? ⟨w.heap.size + 1 + 1, 0, none⟩ = some (.int .i64 index) ∧ W.cell? ⟨w.heap.size + 1 + 1, 1, none⟩ = some cv ∧ W.cell? ⟨w.heap.size + 1 + 1, 2, none⟩ = some pv := ⟨by rw [h.sig.cell]; rfl, by rw [h.sig.cell]; rfl, by rw [h.sig.cell]; rfl⟩
set_option maxRecDepth 100000 in
set_option maxHeartbeats 4000000 in
theorem tver_height (ra ma : Array Value) (h index : Int) (cv pv : Value) (w : World) (hh : ¬ okH h) :
    Calls Tryd.prog 8 #[.agg ra, .int .i64 h, .agg ma, .agg #[.int .i64 index, cv, pv]] w fun e w' => e = .returned (.bool false) ∧ Ext w w' := by
  have HV := hide (fun W => valid_no h W hh)
  have HS := hide (VI.start w ra ma index cv pv)
  clear hh
  go_enter Tryd.func8, Tryd.ntmps8
  go_upto_region 1 with fail
  refine wp_region_held_drew (S := fun W => VI w ra ma index cv pv W) (by kernel_rfl) ((unhide HS).to (Ext.refl _).drew) (fun hHeld => ?_)
  refine wpAnyH_take (i := 0) (oi := _) (v := ?_) rfl (by kernel_rfl) (by kernel_rfl) (by kernel_rfl) (fun _ _ _ h => h) (Or.inl ⟨by rfl, fun wz hSz => ?_⟩) (by assumption) ?_
  rotate_left
  · (first | (go_simp; done) | (go_simp; with_reducible rfl))
  try simp only [Act.put, List.setIfInBounds_toArray, List.set_cons_zero, List.set_cons_succ, List.getElem_toArray, List.getElem_cons_zero]
  refine wpAnyH_ready (rs := [1]) (by kernel_rfl) (by simp) (AllReadyH.cons (o := _) rfl (fun K hK => ?_) AllReadyH.nil)
  try go_simp
  (refine (unhide HV _).mono ?_; rintro e w3 ⟨rfl, rfl⟩; have hS := hHeld; clear hHeld)
  refine hK.out _ _ ?_ (fun hHeld => ?_)
  · exact hS
  clear hK K
  try simp only [Act.put, List.setIfInBounds_toArray, List.set_cons_zero, List.set_cons_succ, List.getElem_toArray, List.getElem_cons_succ, List.getElem_cons_zero]
  refine wpAnyH_take (i := 2) (oi := _) (v := ?_) rfl (by kernel_rfl) (by kernel_rfl) (by kernel_rfl) (fun _ _ _ h => h) (Or.inl ⟨by rfl, fun wz hSz => ?_⟩) (by assumption) ?_
  rotate_left
  · (first | (go_simp; done) | (go_simp; with_reducible rfl))
  try simp only [Act.put, List.setIfInBounds_toArray, List.set_cons_zero, List.set_cons_succ, List.getElem_toArray, List.getElem_cons_succ, List.getElem_cons_zero]
  refine wpAnyH_take (i := 3) (oi := _) (v := ?_) rfl (by kernel_rfl) (by kernel_rfl) (by kernel_rfl) (fun _ _ _ h => h) (Or.inl ⟨by rfl, fun wz hSz => ?_⟩) (by assumption) ?_
  rotate_left
  · (first | (go_simp; done) | (go_simp; with_reducible rfl))
  try simp only [Act.put, List.setIfInBounds_toArray, List.set_cons_zero, List.set_cons_succ, List.getElem_toArray, List.getElem_cons_succ, List.getElem_cons_zero]
  refine wpAnyH_take (i := 4) (oi := _) (v := undef) rfl (by kernel_rfl) (by kernel_rfl) (by kernel_rfl) (fun _ _ _ h => h) (Or.inr ⟨by rfl, rfl⟩) (by assumption) ?_
  try simp only [Act.put, List.setIfInBounds_toArray, List.set_cons_zero, List.set_cons_succ, List.getElem_toArray, List.getElem_cons_succ, List.getElem_cons_zero]
  refine wpAnyH_take (i := 5) (oi := _) (v := undef) rfl (by kernel_rfl) (by kernel_rfl) (by kernel_rfl) (fun _ _ _ h => h) (Or.inr ⟨by rfl, rfl⟩) (by assumption) ?_
  try simp only [Act.put, List.setIfInBounds_toArray, List.set_cons_zero, List.set_cons_succ, List.getElem_toArray, List.getElem_cons_succ, List.getElem_cons_zero]
  refine wpAnyH_take (i := 6) (oi := _) (v := undef) rfl (by kernel_rfl) (by kernel_rfl) (by kernel_rfl) (fun _ _ _ h => h) (Or.inr ⟨by rfl, rfl⟩) (by assumption) ?_
  try simp only [Act.put, List.setIfInBounds_toArray, List.set_cons_zero, List.set_cons_succ, List.getElem_toArray, List.getElem_cons_succ, List.getElem_cons_zero]
  refine wpAnyH_take (i := 7) (oi := _) (v := ?_) rfl (by kernel_rfl) (by kernel_rfl) (by kernel_rfl) (fun _ _ _ h => h) (Or.inl ⟨by rfl, fun wz hSz => ?_⟩) (by assumption) ?_
  rotate_left
  · (first | (go_simp; done) | (go_simp; with_reducible rfl))
  try simp only [Act.put, List.setIfInBounds_toArray, List.set_cons_zero, List.set_cons_succ, List.getElem_toArray, List.getElem_cons_succ, List.getElem_cons_zero]
  refine wpAnyH_take (i := 8) (oi := _) (v := ?_) rfl (by kernel_rfl) (by kernel_rfl) (by kernel_rfl) (fun _ _ _ h => h) (Or.inl ⟨by rfl, fun wz hSz => ?_⟩) (by assumption) ?_
  rotate_left
  · (first | (go_simp; done) | (go_simp; with_reducible rfl))
  try simp only [Act.put, List.setIfInBounds_toArray, List.set_cons_zero, List.set_cons_succ, List.getElem_toArray, List.getElem_cons_succ, List.getElem_cons_zero]
  refine wpAnyH_take (i := 9) (oi := _) (v := undef) rfl (by kernel_rfl) (by kernel_rfl) (by kernel_rfl) (fun _ _ _ h => h) (Or.inr ⟨by rfl, rfl⟩) (by assumption) ?_
  try simp only [Act.put, List.setIfInBounds_toArray, List.set_cons_zero, List.set_cons_succ, List.getElem_toArray, List.getElem_cons_succ, List.getElem_cons_zero]
  refine wpAnyH_take (i := 10) (oi := _) (v := undef) rfl (by kernel_rfl) (by kernel_rfl) (by kernel_rfl) (fun _ _ _ h => h) (Or.inr ⟨by rfl, rfl⟩) (by assumption) ?_
  try simp only [Act.put, List.setIfInBounds_toArray, List.set_cons_zero, List.set_cons_succ, List.getElem_toArray, List.getElem_cons_succ, List.getElem_cons_zero]
  refine wpAnyH_take (i := 11) (oi := _) (v := undef) rfl (by kernel_rfl) (by kernel_rfl) (by kernel_rfl) (fun _ _ _ h => h) (Or.inr ⟨by rfl, rfl⟩) (by assumption) ?_
  try simp only [Act.put, List.setIfInBounds_toArray, List.set_cons_zero, List.set_cons_succ, List.getElem_toArray, List.getElem_cons_succ, List.getElem_cons_zero]
  refine wpAnyH_take (i := 12) (oi := _) (v := undef) rfl (by kernel_rfl) (by kernel_rfl) (by kernel_rfl) (fun _ _ _ h => h) (Or.inr ⟨by rfl, rfl⟩) (by assumption) ?_
  try simp only [Act.put, List.setIfInBounds_toArray, List.set_cons_zero, List.set_cons_succ, List.getElem_toArray, List.getElem_cons_succ, List.getElem_cons_zero]
  refine wpAnyH_take (i := 13) (oi := _) (v := undef) rfl (by kernel_rfl) (by kernel_rfl) (by kernel_rfl) (fun _ _ _ h => h) (Or.inr ⟨by rfl, rfl⟩) (by assumption) ?_
  try simp only [Act.put, List.setIfInBounds_toArray, List.set_cons_zero, List.set_cons_succ, List.getElem_toArray, List.getElem_cons_succ, List.getElem_cons_zero]
  refine wpAnyH_take (i := 14) (oi := _) (v := ?_) rfl (by kernel_rfl) (by kernel_rfl) (by kernel_rfl) (fun _ _ _ h => h) (Or.inl ⟨by rfl, fun wz hSz => ?_⟩) (by assumption) ?_
  rotate_left
  · (first | (go_simp; done) | (go_simp; with_reducible rfl))
  try simp only [Act.put, List.setIfInBounds_toArray, List.set_cons_zero, List.set_cons_succ, List.getElem_toArray, List.getElem_cons_succ, List.getElem_cons_zero]
  refine wpAnyH_done (by kernel_rfl) ?_ _
  have H9 := hide hHeld.ext
  clear hHeld
  go_wp2
  go_ret
  exact ⟨rfl, unhide H9⟩
set_option maxRecDepth 100000 in
set_option maxHeartbeats 4000000 in
theorem tver_neg (ra ma : Array Value) (h index : Int) (cv pv : Value) (w : World) (hh : okH h) (hi : index < 0) :
    Calls Tryd.prog 8 #[.agg ra, .int .i64 h, .agg ma, .agg #[.int .i64 index, cv, pv]] w fun e w' => e = .returned (.bool false) ∧ Ext w w' := by
  have HV := hide (fun W => valid_yes h W hh)
  have HS := hide (VI.start w ra ma index cv pv)
  have hd : decide (index < 0) = true := decide_eq_true hi
  have HF : Hid (∀ W, VI w ra ma index cv pv W → W.cell? ⟨w.heap.size + 1 + 1, 0, none⟩ = some (.int .i64 index)) := hide (fun W hW => hW.cells.1)
  clear hh hi
  go_enter Tryd.func8, Tryd.ntmps8
  go_upto_region 1 with fail
  refine wp_region_held_drew (S := fun W => VI w ra ma index cv pv W) (by kernel_rfl) ((unhide HS).to (Ext.refl _).drew) (fun hHeld => ?_)
  refine wpAnyH_take (i := 0) (oi := _) (v := ?_) rfl (by kernel_rfl) (by kernel_rfl) (by kernel_rfl) (fun _ _ _ h => h) (Or.inl ⟨by rfl, fun wz hSz => ?_⟩) (by assumption) ?_
  rotate_left
  · (first | (go_simp; done) | (go_simp; with_reducible rfl) | (obtain f1 := (unhide HF) wz hSz; clear hSz; first | (go_simp; done) | (go_simp; with_reducible rfl)))
  try simp only [Act.put, List.setIfInBounds_toArray, List.set_cons_zero, List.set_cons_succ, List.getElem_toArray, List.getElem_cons_zero]
  refine wpAnyH_ready (rs := [1]) (by kernel_rfl) (by simp) (AllReadyH.cons (o := _) rfl (fun K hK => ?_) AllReadyH.nil)
  try go_simp
  (refine (unhide HV _).mono ?_; rintro e w3 ⟨rfl, rfl⟩; have hS := hHeld; clear hHeld)
  refine hK.out _ _ ?_ (fun hHeld => ?_)
  · exact hS
  clear hK K
  try simp only [Act.put, List.setIfInBounds_toArray, List.set_cons_zero, List.set_cons_succ, List.getElem_toArray, List.getElem_cons_succ, List.getElem_cons_zero]
  refine wpAnyH_take (i := 2) (oi := _) (v := ?_) rfl (by kernel_rfl) (by kernel_rfl) (by kernel_rfl) (fun _ _ _ h => h) (Or.inl ⟨by rfl, fun wz hSz => ?_⟩) (by assumption) ?_
  rotate_left
  · (first | (go_simp; done) | (go_simp; with_reducible rfl) | (obtain f1 := (unhide HF) wz hSz; clear hSz; first | (go_simp; done) | (go_simp; with_reducible rfl)))
  try simp only [Act.put, List.setIfInBounds_toArray, List.set_cons_zero, List.set_cons_succ, List.getElem_toArray, List.getElem_cons_succ, List.getElem_cons_zero]
  refine wpAnyH_take (i := 3) (oi := _) (v := ?_) rfl (by kernel_rfl) (by kernel_rfl) (by kernel_rfl) (fun _ _ _ h => h) (Or.inl ⟨by rfl, fun wz hSz => ?_⟩) (by assumption) ?_
  rotate_left
  · (first | (go_simp; done) | (go_simp; with_reducible rfl) | (obtain f1 := (unhide HF) wz hSz; clear hSz; first | (go_simp; done) | (go_simp; with_reducible rfl)))
  try simp only [Act.put, List.setIfInBounds_toArray, List.set_cons_zero, List.set_cons_succ, List.getElem_toArray, List.getElem_cons_succ, List.getElem_cons_zero]
  refine wpAnyH_take (i := 4) (oi := _) (v := ?_) rfl (by kernel_rfl) (by kernel_rfl) (by kernel_rfl) (fun _ _ _ h => h) (Or.inl ⟨by rfl, fun wz hSz => ?_⟩) (by assumption) ?_
  rotate_left
  · (first | (go_simp; done) | (go_simp; with_reducible rfl) | (obtain f1 := (unhide HF) wz hSz; clear hSz; first | (go_simp; done) | (go_simp; with_reducible rfl)))
  try simp only [Act.put, List.setIfInBounds_toArray, List.set_cons_zero, List.set_cons_succ, List.getElem_toArray, List.getElem_cons_succ, List.getElem_cons_zero]
  refine wpAnyH_take (i := 5) (oi := _) (v := ?_) rfl (by kernel_rfl) (by kernel_rfl) (by kernel_rfl) (fun _ _ _ h => h) (Or.inl ⟨by rfl, fun wz hSz => ?_⟩) (by assumption) ?_
  rotate_left
  · (first | (go_simp; done) | (go_simp; with_reducible rfl) | (obtain f1 := (unhide HF) wz hSz; clear hSz; first | (go_simp; done) | (go_simp; with_reducible rfl)))
  try simp only [Act.put, List.setIfInBounds_toArray, List.set_cons_zero, List.set_cons_succ, List.getElem_toArray, List.getElem_cons_succ, List.getElem_cons_zero]
  refine wpAnyH_take (i := 6) (oi := _) (v := ?_) rfl (by kernel_rfl) (by kernel_rfl) (by kernel_rfl) (fun _ _ _ h => h) (Or.inl ⟨by rfl, fun wz hSz => ?_⟩) (by assumption) ?_
  rotate_left
  · (first | (go_simp; done) | (go_simp; with_reducible rfl) | (obtain f1 := (unhide HF) wz hSz; clear hSz; first | (go_simp; done) | (go_simp; with_reducible rfl)))
  try simp only [Act.put, List.setIfInBounds_toArray, List.set_cons_zero, List.set_cons_succ, List.getElem_toArray, List.getElem_cons_succ, List.getElem_cons_zero]
  refine wpAnyH_take (i := 7) (oi := _) (v := ?_) rfl (by kernel_rfl) (by kernel_rfl) (by kernel_rfl) (fun _ _ _ h => h) (Or.inl ⟨by rfl, fun wz hSz => ?_⟩) (by assumption) ?_
  rotate_left
  · (first | (go_simp; done) | (go_simp; with_reducible rfl) | (obtain f1 := (unhide HF) wz hSz; clear hSz; first | (go_simp; done) | (go_simp; with_reducible rfl)))
  try simp only [Act.put, List.setIfInBounds_toArray, List.set_cons_zero, List.set_cons_succ, List.getElem_toArray, List.getElem_cons_succ, List.getElem_cons_zero]
  refine wpAnyH_take (i := 8) (oi := _) (v := ?_) rfl (by kernel_rfl) (by kernel_rfl) (by kernel_rfl) (fun _ _ _ h => h) (Or.inl ⟨by rfl, fun wz hSz => ?_⟩) (by assumption) ?_
  rotate_left
  · (first | (go_simp; done) | (go_simp; with_reducible rfl) | (obtain f1 := (unhide HF) wz hSz; clear hSz; first | (go_simp; done) | (go_simp; with_reducible rfl)))
  try simp only [Act.put, List.setIfInBounds_toArray, List.set_cons_zero, List.set_cons_succ, List.getElem_toArray, List.getElem_cons_succ, List.getElem_cons_zero]
  refine wpAnyH_take (i := 9) (oi := _) (v := undef) rfl (by kernel_rfl) (by kernel_rfl) (by kernel_rfl) (fun _ _ _ h => h) (Or.inr ⟨by rfl, rfl⟩) (by assumption) ?_
  try simp only [Act.put, List.setIfInBounds_toArray, List.set_cons_zero, List.set_cons_succ, List.getElem_toArray, List.getElem_cons_succ, List.getElem_cons_zero]
  refine wpAnyH_take (i := 10) (oi := _) (v := undef) rfl (by kernel_rfl) (by kernel_rfl) (by kernel_rfl) (fun _ _ _ h => h) (Or.inr ⟨by rfl, rfl⟩) (by assumption) ?_
  try simp only [Act.put, List.setIfInBounds_toArray, List.set_cons_zero, List.set_cons_succ, List.getElem_toArray, List.getElem_cons_succ, List.getElem_cons_zero]
  refine wpAnyH_take (i := 11) (oi := _) (v := undef) rfl (by kernel_rfl) (by kernel_rfl) (by kernel_rfl) (fun _ _ _ h => h) (Or.inr ⟨by rfl, rfl⟩) (by assumption) ?_
  try simp only [Act.put, List.setIfInBounds_toArray, List.set_cons_zero, List.set_cons_succ, List.getElem_toArray, List.getElem_cons_succ, List.getElem_cons_zero]
  refine wpAnyH_take (i := 12) (oi := _) (v := undef) rfl (by kernel_rfl) (by kernel_rfl) (by kernel_rfl) (fun _ _ _ h => h) (Or.inr ⟨by rfl, rfl⟩) (by assumption) ?_
  try simp only [Act.put, List.setIfInBounds_toArray, List.set_cons_zero, List.set_cons_succ, List.getElem_toArray, List.getElem_cons_succ, List.getElem_cons_zero]
  refine wpAnyH_take (i := 13) (oi := _) (v := undef) rfl (by kernel_rfl) (by kernel_rfl) (by kernel_rfl) (fun _ _ _ h => h) (Or.inr ⟨by rfl, rfl⟩) (by assumption) ?_
  try simp only [Act.put, List.setIfInBounds_toArray, List.set_cons_zero, List.set_cons_succ, List.getElem_toArray, List.getElem_cons_succ, List.getElem_cons_zero]
  refine wpAnyH_take (i := 14) (oi := _) (v := ?_) rfl (by kernel_rfl) (by kernel_rfl) (by kernel_rfl) (fun _ _ _ h => h) (Or.inl ⟨by rfl, fun wz hSz => ?_⟩) (by assumption) ?_
  rotate_left
  · (first | (go_simp; done) | (go_simp; with_reducible rfl) | (obtain f1 := (unhide HF) wz hSz; clear hSz; first | (go_simp; done) | (go_simp; with_reducible rfl)))
  try simp only [Act.put, List.setIfInBounds_toArray, List.set_cons_zero, List.set_cons_succ, List.getElem_toArray, List.getElem_cons_succ, List.getElem_cons_zero]
  refine wpAnyH_done (by kernel_rfl) ?_ _
  have H9 := hide hHeld.ext
  clear hHeld
  go_wp2
  go_ret
  exact ⟨rfl, unhide H9⟩
set_option maxRecDepth 100000 in
set_option maxHeartbeats 4000000 in
theorem tver_big (ra ma : Array Value) (h n : Nat) (hn : n = 2 ^ h) (hh : h ≤ 4) (index : Int) (cv pv : Value) (w : World) (hi : (n : Int) ≤ index) :
    Calls Tryd.prog 8 #[.agg ra, .int .i64 (h : Int), .agg ma, .agg #[.int .i64 index, cv, pv]] w fun e w' => e = .returned (.bool false) ∧ Ext w w' := by
  have HV := hide (fun W => valid_yes (h : Int) W (okH_nat h hh))
  have HS := hide (VI.start w ra ma index cv pv)
  have hsh : wrap64 ((2 : Int) ^ h) = (n : Int) := by rw [shl_one h hh, hn]
  have hsh2 : IntKind.i64.wrap ((2 : Int) ^ h) = (n : Int) := by rw [shl_one2 h hh, hn]
  have hd : decide (index < 0) = false := decide_eq_false (by omega)
  have hd2 : decide ((n : Int) ≤ index) = true := decide_eq_true hi
  have HF : Hid (∀ W, VI w ra ma index cv pv W → W.cell? ⟨w.heap.size + 1 + 1, 0, none⟩ = some (.int .i64 index)) := hide (fun W hW => hW.cells.1)
  clear hn hi
  go_enter Tryd.func8, Tryd.ntmps8
  go_upto_region 1 with fail
  refine wp_region_held_drew (S := fun W => VI w ra ma index cv pv W) (by kernel_rfl) ((unhide HS).to (Ext.refl _).drew) (fun hHeld => ?_)
  refine wpAnyH_take (i := 0) (oi := _) (v := ?_) rfl (by kernel_rfl) (by kernel_rfl) (by kernel_rfl) (fun _ _ _ h => h) (Or.inl ⟨by rfl, fun wz hSz => ?_⟩) (by assumption) ?_
  rotate_left
  · (first | (go_simp; done) | (go_simp; with_reducible rfl) | (obtain f1 := (unhide HF) wz hSz; clear hSz; first | (go_simp; done) | (go_simp; with_reducible rfl)))
  try simp only [Act.put, List.setIfInBounds_toArray, List.set_cons_zero, List.set_cons_succ, List.getElem_toArray, List.getElem_cons_zero]
  refine wpAnyH_ready (rs := [1]) (by kernel_rfl) (by simp) (AllReadyH.cons (o := _) rfl (fun K hK => ?_) AllReadyH.nil)
  try go_simp
  (refine (unhide HV _).mono ?_; rintro e w3 ⟨rfl, rfl⟩; have hS := hHeld; clear hHeld)
  refine hK.out _ _ ?_ (fun hHeld => ?_)
  · exact hS
  clear hK K
  try simp only [Act.put, List.setIfInBounds_toArray, List.set_cons_zero, List.set_cons_succ, List.getElem_toArray, List.getElem_cons_succ, List.getElem_cons_zero]
  refine wpAnyH_take (i := 2) (oi := _) (v := ?_) rfl (by kernel_rfl) (by kernel_rfl) (by kernel_rfl) (fun _ _ _ h => h) (Or.inl ⟨by rfl, fun wz hSz => ?_⟩) (by assumption) ?_
  rotate_left
  · (first | (go_simp; done) | (go_simp; with_reducible rfl) | (obtain f1 := (unhide HF) wz hSz; clear hSz; first | (go_simp; done) | (go_simp; with_reducible rfl)))
  try simp only [Act.put, List.setIfInBounds_toArray, List.set_cons_zero, List.set_cons_succ, List.getElem_toArray, List.getElem_cons_succ, List.getElem_cons_zero]
  refine wpAnyH_take (i := 3) (oi := _) (v := ?_) rfl (by kernel_rfl) (by kernel_rfl) (by kernel_rfl) (fun _ _ _ h => h) (Or.inl ⟨by rfl, fun wz hSz => ?_⟩) (by assumption) ?_
  rotate_left
  · (first | (go_simp; done) | (go_simp; with_reducible rfl) | (obtain f1 := (unhide HF) wz hSz; clear hSz; first | (go_simp; done) | (go_simp; with_reducible rfl)))
  try simp only [Act.put, List.setIfInBounds_toArray, List.set_cons_zero, List.set_cons_succ, List.getElem_toArray, List.getElem_cons_succ, List.getElem_cons_zero]
  refine wpAnyH_take (i := 4) (oi := _) (v := ?_) rfl (by kernel_rfl) (by kernel_rfl) (by kernel_rfl) (fun _ _ _ h => h) (Or.inl ⟨by rfl, fun wz hSz => ?_⟩) (by assumption) ?_
  rotate_left
  · (first | (go_simp; done) | (go_simp; with_reducible rfl) | (obtain f1 := (unhide HF) wz hSz; clear hSz; first | (go_simp; done) | (go_simp; with_reducible rfl)))
  try simp only [Act.put, List.setIfInBounds_toArray, List.set_cons_zero, List.set_cons_succ, List.getElem_toArray, List.getElem_cons_succ, List.getElem_cons_zero]
  refine wpAnyH_take (i := 5) (oi := _) (v := ?_) rfl (by kernel_rfl) (by kernel_rfl) (by kernel_rfl) (fun _ _ _ h => h) (Or.inl ⟨by rfl, fun wz hSz => ?_⟩) (by assumption) ?_
  rotate_left
  · (first | (go_simp; done) | (go_simp; with_reducible rfl) | (obtain f1 := (unhide HF) wz hSz; clear hSz; first | (go_simp; done) | (go_simp; with_reducible rfl)))
  try simp only [Act.put, List.setIfInBounds_toArray, List.set_cons_zero, List.set_cons_succ, List.getElem_toArray, List.getElem_cons_succ, List.getElem_cons_zero]
  refine wpAnyH_take (i := 6) (oi := _) (v := ?_) rfl (by kernel_rfl) (by kernel_rfl) (by kernel_rfl) (fun _ _ _ h => h) (Or.inl ⟨by rfl, fun wz hSz => ?_⟩) (by assumption) ?_
  rotate_left
  · (first | (go_simp; done) | (go_simp; with_reducible rfl) | (obtain f1 := (unhide HF) wz hSz; clear hSz; first | (go_simp; done) | (go_simp; with_reducible rfl)))
  try simp only [Act.put, List.setIfInBounds_toArray, List.set_cons_zero, List.set_cons_succ, List.getElem_toArray, List.getElem_cons_succ, List.getElem_cons_zero]
  refine wpAnyH_take (i := 7) (oi := _) (v := ?_) rfl (by kernel_rfl) (by kernel_rfl) (by kernel_rfl) (fun _ _ _ h => h) (Or.inl ⟨by rfl, fun wz hSz => ?_⟩) (by assumption) ?_
  rotate_left
  · (first | (go_simp; done) | (go_simp; with_reducible rfl) | (obtain f1 := (unhide HF) wz hSz; clear hSz; first | (go_simp; done) | (go_simp; with_reducible rfl)))
  try simp only [Act.put, List.setIfInBounds_toArray, List.set_cons_zero, List.set_cons_succ, List.getElem_toArray, List.getElem_cons_succ, List.getElem_cons_zero]
  refine wpAnyH_take (i := 8) (oi := _) (v := ?_) rfl (by kernel_rfl) (by kernel_rfl) (by kernel_rfl) (fun _ _ _ h => h) (Or.inl ⟨by rfl, fun wz hSz => ?_⟩) (by assumption) ?_
  rotate_left
  · (first | (go_simp; done) | (go_simp; with_reducible rfl) | (obtain f1 := (unhide HF) wz hSz; clear hSz; first | (go_simp; done) | (go_simp; with_reducible rfl)))
  try simp only [Act.put, List.setIfInBounds_toArray, List.set_cons_zero, List.set_cons_succ, List.getElem_toArray, List.getElem_cons_succ, List.getElem_cons_zero]
  refine wpAnyH_take (i := 9) (oi := _) (v := ?_) rfl (by kernel_rfl) (by kernel_rfl) (by kernel_rfl) (fun _ _ _ h => h) (Or.inl ⟨by rfl, fun wz hSz => ?_⟩) (by assumption) ?_
  rotate_left
  · (first | (go_simp; done) | (go_simp; with_reducible rfl) | (obtain f1 := (unhide HF) wz hSz; clear hSz; first | (go_simp; done) | (go_simp; with_reducible rfl)))
  try simp only [Act.put, List.setIfInBounds_toArray, List.set_cons_zero, List.set_cons_succ, List.getElem_toArray, List.getElem_cons_succ, List.getElem_cons_zero]
  refine wpAnyH_take (i := 10) (oi := _) (v := ?_) rfl (by kernel_rfl) (by kernel_rfl) (by kernel_rfl) (fun _ _ _ h => h) (Or.inl ⟨by rfl, fun wz hSz => ?_⟩) (by assumption) ?_
  rotate_left
  · (first | (go_simp; done) | (go_simp; with_reducible rfl) | (obtain f1 := (unhide HF) wz hSz; clear hSz; first | (go_simp; done) | (go_simp; with_reducible rfl)))
  try simp only [Act.put, List.setIfInBounds_toArray, List.set_cons_zero, List.set_cons_succ, List.getElem_toArray, List.getElem_cons_succ, List.getElem_cons_zero]
  refine wpAnyH_take (i := 11) (oi := _) (v := ?_) rfl (by kernel_rfl) (by kernel_rfl) (by kernel_rfl) (fun _ _ _ h => h) (Or.inl ⟨by rfl, fun wz hSz => ?_⟩) (by assumption) ?_
  rotate_left
  · (first | (go_simp; done) | (go_simp; with_reducible rfl) | (obtain f1 := (unhide HF) wz hSz; clear hSz; first | (go_simp; done) | (go_simp; with_reducible rfl)))
  try simp only [Act.put, List.setIfInBounds_toArray, List.set_cons_zero, List.set_cons_succ, List.getElem_toArray, List.getElem_cons_succ, List.getElem_cons_zero]
  refine wpAnyH_take (i := 12) (oi := _) (v := ?_) rfl (by kernel_rfl) (by kernel_rfl) (by kernel_rfl) (fun _ _ _ h => h) (Or.inl ⟨by rfl, fun wz hSz => ?_⟩) (by assumption) ?_
  rotate_left
  · (first | (go_simp; done) | (go_simp; with_reducible rfl) | (obtain f1 := (unhide HF) wz hSz; clear hSz; first | (go_simp; done) | (go_simp; with_reducible rfl)))
  try simp only [Act.put, List.setIfInBounds_toArray, List.set_cons_zero, List.set_cons_succ, List.getElem_toArray, List.getElem_cons_succ, List.getElem_cons_zero]
  refine wpAnyH_take (i := 13) (oi := _) (v := ?_) rfl (by kernel_rfl) (by kernel_rfl) (by kernel_rfl) (fun _ _ _ h => h) (Or.inl ⟨by rfl, fun wz hSz => ?_⟩) (by assumption) ?_
  rotate_left
  · (first | (go_simp; done) | (go_simp; with_reducible rfl) | (obtain f1 := (unhide HF) wz hSz; clear hSz; first | (go_simp; done) | (go_simp; with_reducible rfl)))
  try simp only [Act.put, List.setIfInBounds_toArray, List.set_cons_zero, List.set_cons_succ, List.getElem_toArray, List.getElem_cons_succ, List.getElem_cons_zero]
  refine wpAnyH_take (i := 14) (oi := _) (v := ?_) rfl (by kernel_rfl) (by kernel_rfl) (by kernel_rfl) (fun _ _ _ h => h) (Or.inl ⟨by rfl, fun wz hSz => ?_⟩) (by assumption) ?_
  rotate_left
  · (first | (go_simp; done) | (go_simp; with_reducible rfl) | (obtain f1 := (unhide HF) wz hSz; clear hSz; first | (go_simp; done) | (go_simp; with_reducible rfl)))
  try simp only [Act.put, List.setIfInBounds_toArray, List.set_cons_zero, List.set_cons_succ, List.getElem_toArray, List.getElem_cons_succ, List.getElem_cons_zero]
  refine wpAnyH_done (by kernel_rfl) ?_ _
  have H9 := hide hHeld.ext
  clear hHeld
  go_wp2
  go_ret
  exact ⟨rfl, unhide H9⟩
set_option maxRecDepth 100000 in
set_option maxHeartbeats 4000000 in
theorem tver_chain (root msg : List UInt8) (h n : Nat) (hn : n = 2 ^ h) (hh : h ≤ 4) (i : Nat) (hi : i < n) (hm : msg.length = 16) (chain : List (List UInt8)) (cv pv : Value) (w : World) (hDc : Digs w cv chain) (hc : ¬ chain.length = 68) :
    Calls Tryd.prog 8 #[.agg (root.map u8v).toArray, .int .i64 (h : Int), .agg (msg.map u8v).toArray, .agg #[.int .i64 (i : Int), cv, pv]] w fun e w' => e = .returned (.bool false) ∧ Ext w w' := by
  have HR := hide (fun W (hE : Ext w W) => recover_no msg chain cv W hc (hDc.ext hE))
  obtain ⟨ra, hra⟩ : ∃ x, (root.map u8v).toArray = x := ⟨_, rfl⟩
  obtain ⟨ma, hma⟩ : ∃ x, (msg.map u8v).toArray = x := ⟨_, rfl⟩
  rw [hma] at HR
  rw [hra, hma]
  have HSZ := hide (show ma.size = 16 from by rw [← hma]; simpa using hm)
  have HV := hide (fun W => valid_yes (h : Int) W (okH_nat h hh))
  have HS := hide (VI.start w ra ma (i : Int) cv pv)
  have hsh : wrap64 ((2 : Int) ^ h) = (n : Int) := by rw [shl_one h hh, hn]
  have hsh2 : IntKind.i64.wrap ((2 : Int) ^ h) = (n : Int) := by rw [shl_one2 h hh, hn]
  have hd : decide ((i : Int) < 0) = false := decide_eq_false (by omega)
  have hd2 : decide ((n : Int) ≤ (i : Int)) = false := decide_eq_false (by omega)
  have hd3 : decide (n ≤ i) = false := decide_eq_false (by omega)
  have HF : Hid (∀ W, VI w ra ma (i : Int) cv pv W → W.cell? ⟨w.heap.size + 1 + 1, 0, none⟩ = some (.int .i64 (i : Int))) := hide (fun W hW => hW.cells.1)
  have HZ16 := hide (show (z16.map u8v).toArray.size = 16 ∧ (z16.map u8v).toArray.all (·.oneCell') = true from ⟨rfl, bytes_one _⟩)
  obtain ⟨za, hza⟩ : ∃ x, (z16.map u8v).toArray = x := ⟨_, rfl⟩
  rw [hza] at HR HZ16
  clear hn hi hra hma hza hDc hc hm
  go_enter Tryd.func8, Tryd.ntmps8
  go_upto_region 1 with fail
  refine wp_region_held_drew (S := fun W => VI w ra ma (i : Int) cv pv W) (by kernel_rfl) ((unhide HS).to (Ext.refl _).drew) (fun hHeld => ?_)
  refine wpAnyH_take (i := 0) (oi := _) (v := ?_) rfl (by kernel_rfl) (by kernel_rfl) (by kernel_rfl) (fun _ _ _ h => h) (Or.inl ⟨by rfl, fun wz hSz => ?_⟩) (by assumption) ?_
  rotate_left
  · (first | (go_simp; done) | (go_simp; with_reducible rfl) | (obtain f1 := (unhide HF) wz hSz; clear hSz; first | (go_simp; done) | (go_simp; with_reducible rfl)))
  try simp only [Act.put, List.setIfInBounds_toArray, List.set_cons_zero, List.set_cons_succ, List.getElem_toArray, List.getElem_cons_zero]
  refine wpAnyH_ready (rs := [1]) (by kernel_rfl) (by simp) (AllReadyH.cons (o := _) rfl (fun K hK => ?_) AllReadyH.nil)
  try go_simp
  (refine (unhide HV _).mono ?_; rintro e w3 ⟨rfl, rfl⟩; have hS := hHeld; clear hHeld)
  refine hK.out _ _ ?_ (fun hHeld => ?_)
  · exact hS
  clear hK K
  try simp only [Act.put, List.setIfInBounds_toArray, List.set_cons_zero, List.set_cons_succ, List.getElem_toArray, List.getElem_cons_succ, List.getElem_cons_zero]
  refine wpAnyH_take (i := 2) (oi := _) (v := ?_) rfl (by kernel_rfl) (by kernel_rfl) (by kernel_rfl) (fun _ _ _ h => h) (Or.inl ⟨by rfl, fun wz hSz => ?_⟩) (by assumption) ?_
  rotate_left
  · (first | (go_simp; done) | (go_simp; with_reducible rfl) | (obtain f1 := (unhide HF) wz hSz; clear hSz; first | (go_simp; done) | (go_simp; with_reducible rfl)))
  try simp only [Act.put, List.setIfInBounds_toArray, List.set_cons_zero, List.set_cons_succ, List.getElem_toArray, List.getElem_cons_succ, List.getElem_cons_zero]
  refine wpAnyH_take (i := 3) (oi := _) (v := ?_) rfl (by kernel_rfl) (by kernel_rfl) (by kernel_rfl) (fun _ _ _ h => h) (Or.inl ⟨by rfl, fun wz hSz => ?_⟩) (by assumption) ?_
  rotate_left
  · (first | (go_simp; done) | (go_simp; with_reducible rfl) | (obtain f1 := (unhide HF) wz hSz; clear hSz; first | (go_simp; done) | (go_simp; with_reducible rfl)))
  try simp only [Act.put, List.setIfInBounds_toArray, List.set_cons_zero, List.set_cons_succ, List.getElem_toArray, List.getElem_cons_succ, List.getElem_cons_zero]
  refine wpAnyH_take (i := 4) (oi := _) (v := ?_) rfl (by kernel_rfl) (by kernel_rfl) (by kernel_rfl) (fun _ _ _ h => h) (Or.inl ⟨by rfl, fun wz hSz => ?_⟩) (by assumption) ?_
  rotate_left
  · (first | (go_simp; done) | (go_simp; with_reducible rfl) | (obtain f1 := (unhide HF) wz hSz; clear hSz; first | (go_simp; done) | (go_simp; with_reducible rfl)))
  try simp only [Act.put, List.setIfInBounds_toArray, List.set_cons_zero, List.set_cons_succ, List.getElem_toArray, List.getElem_cons_succ, List.getElem_cons_zero]
  refine wpAnyH_take (i := 5) (oi := _) (v := ?_) rfl (by kernel_rfl) (by kernel_rfl) (by kernel_rfl) (fun _ _ _ h => h) (Or.inl ⟨by rfl, fun wz hSz => ?_⟩) (by assumption) ?_
  rotate_left
  · (first | (go_simp; done) | (go_simp; with_reducible rfl) | (obtain f1 := (unhide HF) wz hSz; clear hSz; first | (go_simp; done) | (go_simp; with_reducible rfl)))
  try simp only [Act.put, List.setIfInBounds_toArray, List.set_cons_zero, List.set_cons_succ, List.getElem_toArray, List.getElem_cons_succ, List.getElem_cons_zero]
  refine wpAnyH_take (i := 6) (oi := _) (v := ?_) rfl (by kernel_rfl) (by kernel_rfl) (by kernel_rfl) (fun _ _ _ h => h) (Or.inl ⟨by rfl, fun wz hSz => ?_⟩) (by assumption) ?_
  rotate_left
  · (first | (go_simp; done) | (go_simp; with_reducible rfl) | (obtain f1 := (unhide HF) wz hSz; clear hSz; first | (go_simp; done) | (go_simp; with_reducible rfl)))
  try simp only [Act.put, List.setIfInBounds_toArray, List.set_cons_zero, List.set_cons_succ, List.getElem_toArray, List.getElem_cons_succ, List.getElem_cons_zero]
  refine wpAnyH_take (i := 7) (oi := _) (v := ?_) rfl (by kernel_rfl) (by kernel_rfl) (by kernel_rfl) (fun _ _ _ h => h) (Or.inl ⟨by rfl, fun wz hSz => ?_⟩) (by assumption) ?_
  rotate_left
  · (first | (go_simp; done) | (go_simp; with_reducible rfl) | (obtain f1 := (unhide HF) wz hSz; clear hSz; first | (go_simp; done) | (go_simp; with_reducible rfl)))
  try simp only [Act.put, List.setIfInBounds_toArray, List.set_cons_zero, List.set_cons_succ, List.getElem_toArray, List.getElem_cons_succ, List.getElem_cons_zero]
  refine wpAnyH_take (i := 8) (oi := _) (v := ?_) rfl (by kernel_rfl) (by kernel_rfl) (by kernel_rfl) (fun _ _ _ h => h) (Or.inl ⟨by rfl, fun wz hSz => ?_⟩) (by assumption) ?_
  rotate_left
  · (first | (go_simp; done) | (go_simp; with_reducible rfl) | (obtain f1 := (unhide HF) wz hSz; clear hSz; first | (go_simp; done) | (go_simp; with_reducible rfl)))
  try simp only [Act.put, List.setIfInBounds_toArray, List.set_cons_zero, List.set_cons_succ, List.getElem_toArray, List.getElem_cons_succ, List.getElem_cons_zero]
  refine wpAnyH_take (i := 9) (oi := _) (v := ?_) rfl (by kernel_rfl) (by kernel_rfl) (by kernel_rfl) (fun _ _ _ h => h) (Or.inl ⟨by rfl, fun wz hSz => ?_⟩) (by assumption) ?_
  rotate_left
  · (first | (go_simp; done) | (go_simp; with_reducible rfl) | (obtain f1 := (unhide HF) wz hSz; clear hSz; first | (go_simp; done) | (go_simp; with_reducible rfl)))
  try simp only [Act.put, List.setIfInBounds_toArray, List.set_cons_zero, List.set_cons_succ, List.getElem_toArray, List.getElem_cons_succ, List.getElem_cons_zero]
  refine wpAnyH_take (i := 10) (oi := _) (v := ?_) rfl (by kernel_rfl) (by kernel_rfl) (by kernel_rfl) (fun _ _ _ h => h) (Or.inl ⟨by rfl, fun wz hSz => ?_⟩) (by assumption) ?_
  rotate_left
  · (first | (go_simp; done) | (go_simp; with_reducible rfl) | (obtain f1 := (unhide HF) wz hSz; clear hSz; first | (go_simp; done) | (go_simp; with_reducible rfl)))
  try simp only [Act.put, List.setIfInBounds_toArray, List.set_cons_zero, List.set_cons_succ, List.getElem_toArray, List.getElem_cons_succ, List.getElem_cons_zero]
  refine wpAnyH_take (i := 11) (oi := _) (v := ?_) rfl (by kernel_rfl) (by kernel_rfl) (by kernel_rfl) (fun _ _ _ h => h) (Or.inl ⟨by rfl, fun wz hSz => ?_⟩) (by assumption) ?_
  rotate_left
  · (first | (go_simp; done) | (go_simp; with_reducible rfl) | (obtain f1 := (unhide HF) wz hSz; clear hSz; first | (go_simp; done) | (go_simp; with_reducible rfl)))
  try simp only [Act.put, List.setIfInBounds_toArray, List.set_cons_zero, List.set_cons_succ, List.getElem_toArray, List.getElem_cons_succ, List.getElem_cons_zero]
  refine wpAnyH_take (i := 12) (oi := _) (v := ?_) rfl (by kernel_rfl) (by kernel_rfl) (by kernel_rfl) (fun _ _ _ h => h) (Or.inl ⟨by rfl, fun wz hSz => ?_⟩) (by assumption) ?_
  rotate_left
  · (first | (go_simp; done) | (go_simp; with_reducible rfl) | (obtain f1 := (unhide HF) wz hSz; clear hSz; first | (go_simp; done) | (go_simp; with_reducible rfl)))
  try simp only [Act.put, List.setIfInBounds_toArray, List.set_cons_zero, List.set_cons_succ, List.getElem_toArray, List.getElem_cons_succ, List.getElem_cons_zero]
  refine wpAnyH_take (i := 13) (oi := _) (v := ?_) rfl (by kernel_rfl) (by kernel_rfl) (by kernel_rfl) (fun _ _ _ h => h) (Or.inl ⟨by rfl, fun wz hSz => ?_⟩) (by assumption) ?_
  rotate_left
  · (first | (go_simp; done) | (go_simp; with_reducible rfl) | (obtain f1 := (unhide HF) wz hSz; clear hSz; first | (go_simp; done) | (go_simp; with_reducible rfl)))
  try simp only [Act.put, List.setIfInBounds_toArray, List.set_cons_zero, List.set_cons_succ, List.getElem_toArray, List.getElem_cons_succ, List.getElem_cons_zero]
  refine wpAnyH_take (i := 14) (oi := _) (v := ?_) rfl (by kernel_rfl) (by kernel_rfl) (by kernel_rfl) (fun _ _ _ h => h) (Or.inl ⟨by rfl, fun wz hSz => ?_⟩) (by assumption) ?_
  rotate_left
  · (first | (go_simp; done) | (go_simp; with_reducible rfl) | (obtain f1 := (unhide HF) wz hSz; clear hSz; first | (go_simp; done) | (go_simp; with_reducible rfl)))
  try simp only [Act.put, List.setIfInBounds_toArray, List.set_cons_zero, List.set_cons_succ, List.getElem_toArray, List.getElem_cons_succ, List.getElem_cons_zero]
  refine wpAnyH_done (by kernel_rfl) ?_ _
  have H1 := hide hHeld
  obtain ⟨f0, f1, f2⟩ := hHeld.cells
  clear hHeld
  go_upto_region 4 with (first
    | (refine wpList_loadB (ty := 23) (t := 23) (x := .tmp 6) rfl rfl digest_wide rfl (cs := ma) (unhide H1).msg (unhide HSZ) ?_)
    | (go_at_call 16; refine (unhide HR _ (unhide H1).ext).mono ?_; rintro e w5 ⟨rfl, hE5⟩; have H5 := hide ((unhide H1).to hE5); clear hE5)
    | (refine wpList_storeB (ty := 23) (t := 23) (x := .tmp 9) (y := .tmp 31) rfl rfl digest_wide rfl rfl (Blk.new w5 _ _) rfl (unhide HZ16).1 (unhide HZ16).2 ?_; intro w7 hb7 hc7 hz7; have H7 := hide ((unhide H5).to (made_ext1 hc7)); clear hb7 hc7 hz7))
  refine wp_region_held_drew (S := fun W => VI w ra ma (i : Int) cv pv W) (by kernel_rfl) ((unhide H7).to (Ext.refl _).drew) (fun hHeld => ?_)
  refine wpAnyH_take (i := 0) (oi := _) (v := ?_) rfl (by kernel_rfl) (by kernel_rfl) (by kernel_rfl) (fun _ _ _ h => h) (Or.inl ⟨by rfl, fun wz hSz => ?_⟩) (by assumption) ?_
  rotate_left
  · (first | (go_simp; done) | (go_simp; with_reducible rfl))
  try simp only [Act.put, List.setIfInBounds_toArray, List.set_cons_zero, List.set_cons_succ, List.getElem_toArray, List.getElem_cons_zero]
  refine wpAnyH_take (i := 1) (oi := _) (v := ?_) rfl (by kernel_rfl) (by kernel_rfl) (by kernel_rfl) (fun _ _ _ h => h) (Or.inl ⟨by rfl, fun wz hSz => ?_⟩) (by assumption) ?_
  rotate_left
  · (first | (go_simp; done) | (go_simp; with_reducible rfl))
  try simp only [Act.put, List.setIfInBounds_toArray, List.set_cons_zero, List.set_cons_succ, List.getElem_toArray, List.getElem_cons_succ, List.getElem_cons_zero]
  refine wpAnyH_take (i := 2) (oi := _) (v := ?_) rfl (by kernel_rfl) (by kernel_rfl) (by kernel_rfl) (fun _ _ _ h => h) (Or.inl ⟨by rfl, fun wz hSz => ?_⟩) (by assumption) ?_
  rotate_left
  · (first | (go_simp; done) | (go_simp; with_reducible rfl))
  try simp only [Act.put, List.setIfInBounds_toArray, List.set_cons_zero, List.set_cons_succ, List.getElem_toArray, List.getElem_cons_succ, List.getElem_cons_zero]
  refine wpAnyH_take (i := 3) (oi := _) (v := undef) rfl (by kernel_rfl) (by kernel_rfl) (by kernel_rfl) (fun _ _ _ h => h) (Or.inr ⟨by rfl, rfl⟩) (by assumption) ?_
  try simp only [Act.put, List.setIfInBounds_toArray, List.set_cons_zero, List.set_cons_succ, List.getElem_toArray, List.getElem_cons_succ, List.getElem_cons_zero]
  refine wpAnyH_take (i := 4) (oi := _) (v := undef) rfl (by kernel_rfl) (by kernel_rfl) (by kernel_rfl) (fun _ _ _ h => h) (Or.inr ⟨by rfl, rfl⟩) (by assumption) ?_
  try simp only [Act.put, List.setIfInBounds_toArray, List.set_cons_zero, List.set_cons_succ, List.getElem_toArray, List.getElem_cons_succ, List.getElem_cons_zero]
  refine wpAnyH_take (i := 5) (oi := _) (v := undef) rfl (by kernel_rfl) (by kernel_rfl) (by kernel_rfl) (fun _ _ _ h => h) (Or.inr ⟨by rfl, rfl⟩) (by assumption) ?_
  try simp only [Act.put, List.setIfInBounds_toArray, List.set_cons_zero, List.set_cons_succ, List.getElem_toArray, List.getElem_cons_succ, List.getElem_cons_zero]
  refine wpAnyH_take (i := 6) (oi := _) (v := undef) rfl (by kernel_rfl) (by kernel_rfl) (by kernel_rfl) (fun _ _ _ h => h) (Or.inr ⟨by rfl, rfl⟩) (by assumption) ?_
  try simp only [Act.put, List.setIfInBounds_toArray, List.set_cons_zero, List.set_cons_succ, List.getElem_toArray, List.getElem_cons_succ, List.getElem_cons_zero]
  refine wpAnyH_take (i := 7) (oi := _) (v := undef) rfl (by kernel_rfl) (by kernel_rfl) (by kernel_rfl) (fun _ _ _ h => h) (Or.inr ⟨by rfl, rfl⟩) (by assumption) ?_
  try simp only [Act.put, List.setIfInBounds_toArray, List.set_cons_zero, List.set_cons_succ, List.getElem_toArray, List.getElem_cons_succ, List.getElem_cons_zero]
  refine wpAnyH_take (i := 8) (oi := _) (v := undef) rfl (by kernel_rfl) (by kernel_rfl) (by kernel_rfl) (fun _ _ _ h => h) (Or.inr ⟨by rfl, rfl⟩) (by assumption) ?_
  try simp only [Act.put, List.setIfInBounds_toArray, List.set_cons_zero, List.set_cons_succ, List.getElem_toArray, List.getElem_cons_succ, List.getElem_cons_zero]
  refine wpAnyH_take (i := 9) (oi := _) (v := undef) rfl (by kernel_rfl) (by kernel_rfl) (by kernel_rfl) (fun _ _ _ h => h) (Or.inr ⟨by rfl, rfl⟩) (by assumption) ?_
  try simp only [Act.put, List.setIfInBounds_toArray, List.set_cons_zero, List.set_cons_succ, List.getElem_toArray, List.getElem_cons_succ, List.getElem_cons_zero]
  refine wpAnyH_take (i := 10) (oi := _) (v := undef) rfl (by kernel_rfl) (by kernel_rfl) (by kernel_rfl) (fun _ _ _ h => h) (Or.inr ⟨by rfl, rfl⟩) (by assumption) ?_
  try simp only [Act.put, List.setIfInBounds_toArray, List.set_cons_zero, List.set_cons_succ, List.getElem_toArray, List.getElem_cons_succ, List.getElem_cons_zero]
  refine wpAnyH_take (i := 11) (oi := _) (v := undef) rfl (by kernel_rfl) (by kernel_rfl) (by kernel_rfl) (fun _ _ _ h => h) (Or.inr ⟨by rfl, rfl⟩) (by assumption) ?_
  try simp only [Act.put, List.setIfInBounds_toArray, List.set_cons_zero, List.set_cons_succ, List.getElem_toArray, List.getElem_cons_succ, List.getElem_cons_zero]
  refine wpAnyH_take (i := 12) (oi := _) (v := ?_) rfl (by kernel_rfl) (by kernel_rfl) (by kernel_rfl) (fun _ _ _ h => h) (Or.inl ⟨by rfl, fun wz hSz => ?_⟩) (by assumption) ?_
  rotate_left
  · (first | (go_simp; done) | (go_simp; with_reducible rfl))
  try simp only [Act.put, List.setIfInBounds_toArray, List.set_cons_zero, List.set_cons_succ, List.getElem_toArray, List.getElem_cons_succ, List.getElem_cons_zero]
  refine wpAnyH_take (i := 13) (oi := _) (v := ?_) rfl (by kernel_rfl) (by kernel_rfl) (by kernel_rfl) (fun _ _ _ h => h) (Or.inl ⟨by rfl, fun wz hSz => ?_⟩) (by assumption) ?_
  rotate_left
  · (first | (go_simp; done) | (go_simp; with_reducible rfl))
  try simp only [Act.put, List.setIfInBounds_toArray, List.set_cons_zero, List.set_cons_succ, List.getElem_toArray, List.getElem_cons_succ, List.getElem_cons_zero]
  refine wpAnyH_done (by kernel_rfl) ?_ _
  have H9 := hide hHeld.ext
  clear hHeld
  go_wp2
  go_ret
  exact ⟨rfl, unhide H9⟩
set_option maxRecDepth 100000 in
set_option maxHeartbeats 8000000 in
theorem tver_in (root msg : List UInt8) (h n : Nat) (hn : n = 2 ^ h) (hh : h ≤ 4) (i : Nat) (hi : i < n) (chain path : List (List UInt8)) (cv pv : Value) (w : World) (hM : ShaMem w) (hr : root.length = 16) (hm : msg.length = 16) (hDc : Digs w cv chain) (hDp : Digs w pv path) (hpl : path.length ≤ 100000) (hc : chain.length = 68) :
    Calls Tryd.prog 8 #[.agg (root.map u8v).toArray, .int .i64 (h : Int), .agg (msg.map u8v).toArray, .agg #[.int .i64 (i : Int), cv, pv]] w fun e w' => e = .returned (.bool (verifyS root n i (recoverS msg (chainAt chain)) path)) ∧ Ext w w' := by
  have hn16 : n ≤ 16 := by subst hn; exact pow_le16 h h (Nat.le_refl _) hh
  have hkl : (recoverS msg (chainAt chain)).length = 16 := digestS_length _ _
  have HR := hide (fun W (hE : Ext w W) => recover_yes msg chain cv W (hM.ext hE) hm hc (hDc.ext hE))
  have HMV := hide (fun W (hE : Ext w W) => mverify_in root (recoverS msg (chainAt chain)) n i path pv W (hM.ext hE) hr hkl (by omega) hpl (hDp.ext hE) hi)
  obtain ⟨res, hres⟩ : ∃ x, verifyS root n i (recoverS msg (chainAt chain)) path = x := ⟨_, rfl⟩
  rw [hres] at HMV ⊢
  obtain ⟨key, hkey⟩ : ∃ x, recoverS msg (chainAt chain) = x := ⟨_, rfl⟩
  rw [hkey] at HR HMV hkl
  obtain ⟨ra, hra⟩ : ∃ x, (root.map u8v).toArray = x := ⟨_, rfl⟩
  obtain ⟨ma, hma⟩ : ∃ x, (msg.map u8v).toArray = x := ⟨_, rfl⟩
  obtain ⟨ka, hka⟩ : ∃ x, (key.map u8v).toArray = x := ⟨_, rfl⟩
  have HSZ := hide (show ma.size = 16 ∧ ra.size = 16 ∧ ka.size = 16 ∧ ka.all (·.oneCell') = true from by rw [← hma, ← hra, ← hka]; exact ⟨by simpa using hm, by simpa using hr, by simpa using hkl, bytes_one _⟩)
  rw [hma, hka] at HR
  rw [hra, hka] at HMV
  rw [hra, hma]
  have HV := hide (fun W => valid_yes (h : Int) W (okH_nat h hh))
  have HS := hide (VI.start w ra ma (i : Int) cv pv)
  have hsh : wrap64 ((2 : Int) ^ h) = (n : Int) := by rw [shl_one h hh, hn]
  have hsh2 : IntKind.i64.wrap ((2 : Int) ^ h) = (n : Int) := by rw [shl_one2 h hh, hn]
  have hd : decide ((i : Int) < 0) = false := decide_eq_false (by omega)
  have hd2 : decide ((n : Int) ≤ (i : Int)) = false := decide_eq_false (by omega)
  have hd3 : decide (n ≤ i) = false := decide_eq_false (by omega)
  have HF : Hid (∀ W, VI w ra ma (i : Int) cv pv W → W.cell? ⟨w.heap.size + 1 + 1, 0, none⟩ = some (.int .i64 (i : Int))) := hide (fun W hW => hW.cells.1)
  clear hn hi hra hma hka hkey hres hDc hDp hc hm hM hr hkl hpl
  go_enter Tryd.func8, Tryd.ntmps8
  go_upto_region 1 with fail
  refine wp_region_held_drew (S := fun W => VI w ra ma (i : Int) cv pv W) (by kernel_rfl) ((unhide HS).to (Ext.refl _).drew) (fun hHeld => ?_)
  refine wpAnyH_take (i := 0) (oi := _) (v := ?_) rfl (by kernel_rfl) (by kernel_rfl) (by kernel_rfl) (fun _ _ _ h => h) (Or.inl ⟨by rfl, fun wz hSz => ?_⟩) (by assumption) ?_
  rotate_left
  · (first | (go_simp; done) | (go_simp; with_reducible rfl) | (obtain f1 := (unhide HF) wz hSz; clear hSz; first | (go_simp; done) | (go_simp; with_reducible rfl)))
  try simp only [Act.put, List.setIfInBounds_toArray, List.set_cons_zero, List.set_cons_succ, List.getElem_toArray, List.getElem_cons_zero]
  refine wpAnyH_ready (rs := [1]) (by kernel_rfl) (by simp) (AllReadyH.cons (o := _) rfl (fun K hK => ?_) AllReadyH.nil)
  try go_simp
  (refine (unhide HV _).mono ?_; rintro e w3 ⟨rfl, rfl⟩; have hS := hHeld; clear hHeld)
  refine hK.out _ _ ?_ (fun hHeld => ?_)
  · exact hS
  clear hK K
  try simp only [Act.put, List.setIfInBounds_toArray, List.set_cons_zero, List.set_cons_succ, List.getElem_toArray, List.getElem_cons_succ, List.getElem_cons_zero]
  refine wpAnyH_take (i := 2) (oi := _) (v := ?_) rfl (by kernel_rfl) (by kernel_rfl) (by kernel_rfl) (fun _ _ _ h => h) (Or.inl ⟨by rfl, fun wz hSz => ?_⟩) (by assumption) ?_
  rotate_left
  · (first | (go_simp; done) | (go_simp; with_reducible rfl) | (obtain f1 := (unhide HF) wz hSz; clear hSz; first | (go_simp; done) | (go_simp; with_reducible rfl)))
  try simp only [Act.put, List.setIfInBounds_toArray, List.set_cons_zero, List.set_cons_succ, List.getElem_toArray, List.getElem_cons_succ, List.getElem_cons_zero]
  refine wpAnyH_take (i := 3) (oi := _) (v := ?_) rfl (by kernel_rfl) (by kernel_rfl) (by kernel_rfl) (fun _ _ _ h => h) (Or.inl ⟨by rfl, fun wz hSz => ?_⟩) (by assumption) ?_
  rotate_left
  · (first | (go_simp; done) | (go_simp; with_reducible rfl) | (obtain f1 := (unhide HF) wz hSz; clear hSz; first | (go_simp; done) | (go_simp; with_reducible rfl)))
  try simp only [Act.put, List.setIfInBounds_toArray, List.set_cons_zero, List.set_cons_succ, List.getElem_toArray, List.getElem_cons_succ, List.getElem_cons_zero]
  refine wpAnyH_take (i := 4) (oi := _) (v := ?_) rfl (by kernel_rfl) (by kernel_rfl) (by kernel_rfl) (fun _ _ _ h => h) (Or.inl ⟨by rfl, fun wz hSz => ?_⟩) (by assumption) ?_
  rotate_left
  · (first | (go_simp; done) | (go_simp; with_reducible rfl) | (obtain f1 := (unhide HF) wz hSz; clear hSz; first | (go_simp; done) | (go_simp; with_reducible rfl)))
  try simp only [Act.put, List.setIfInBounds_toArray, List.set_cons_zero, List.set_cons_succ, List.getElem_toArray, List.getElem_cons_succ, List.getElem_cons_zero]
  refine wpAnyH_take (i := 5) (oi := _) (v := ?_) rfl (by kernel_rfl) (by kernel_rfl) (by kernel_rfl) (fun _ _ _ h => h) (Or.inl ⟨by rfl, fun wz hSz => ?_⟩) (by assumption) ?_
  rotate_left
  · (first | (go_simp; done) | (go_simp; with_reducible rfl) | (obtain f1 := (unhide HF) wz hSz; clear hSz; first | (go_simp; done) | (go_simp; with_reducible rfl)))
  try simp only [Act.put, List.setIfInBounds_toArray, List.set_cons_zero, List.set_cons_succ, List.getElem_toArray, List.getElem_cons_succ, List.getElem_cons_zero]
  refine wpAnyH_take (i := 6) (oi := _) (v := ?_) rfl (by kernel_rfl) (by kernel_rfl) (by kernel_rfl) (fun _ _ _ h => h) (Or.inl ⟨by rfl, fun wz hSz => ?_⟩) (by assumption) ?_
  rotate_left
  · (first | (go_simp; done) | (go_simp; with_reducible rfl) | (obtain f1 := (unhide HF) wz hSz; clear hSz; first | (go_simp; done) | (go_simp; with_reducible rfl)))
  try simp only [Act.put, List.setIfInBounds_toArray, List.set_cons_zero, List.set_cons_succ, List.getElem_toArray, List.getElem_cons_succ, List.getElem_cons_zero]
  refine wpAnyH_take (i := 7) (oi := _) (v := ?_) rfl (by kernel_rfl) (by kernel_rfl) (by kernel_rfl) (fun _ _ _ h => h) (Or.inl ⟨by rfl, fun wz hSz => ?_⟩) (by assumption) ?_
  rotate_left
  · (first | (go_simp; done) | (go_simp; with_reducible rfl) | (obtain f1 := (unhide HF) wz hSz; clear hSz; first | (go_simp; done) | (go_simp; with_reducible rfl)))
  try simp only [Act.put, List.setIfInBounds_toArray, List.set_cons_zero, List.set_cons_succ, List.getElem_toArray, List.getElem_cons_succ, List.getElem_cons_zero]
  refine wpAnyH_take (i := 8) (oi := _) (v := ?_) rfl (by kernel_rfl) (by kernel_rfl) (by kernel_rfl) (fun _ _ _ h => h) (Or.inl ⟨by rfl, fun wz hSz => ?_⟩) (by assumption) ?_
  rotate_left
  · (first | (go_simp; done) | (go_simp; with_reducible rfl) | (obtain f1 := (unhide HF) wz hSz; clear hSz; first | (go_simp; done) | (go_simp; with_reducible rfl)))
  try simp only [Act.put, List.setIfInBounds_toArray, List.set_cons_zero, List.set_cons_succ, List.getElem_toArray, List.getElem_cons_succ, List.getElem_cons_zero]
  refine wpAnyH_take (i := 9) (oi := _) (v := ?_) rfl (by kernel_rfl) (by kernel_rfl) (by kernel_rfl) (fun _ _ _ h => h) (Or.inl ⟨by rfl, fun wz hSz => ?_⟩) (by assumption) ?_
  rotate_left
  · (first | (go_simp; done) | (go_simp; with_reducible rfl) | (obtain f1 := (unhide HF) wz hSz; clear hSz; first | (go_simp; done) | (go_simp; with_reducible rfl)))
  try simp only [Act.put, List.setIfInBounds_toArray, List.set_cons_zero, List.set_cons_succ, List.getElem_toArray, List.getElem_cons_succ, List.getElem_cons_zero]
  refine wpAnyH_take (i := 10) (oi := _) (v := ?_) rfl (by kernel_rfl) (by kernel_rfl) (by kernel_rfl) (fun _ _ _ h => h) (Or.inl ⟨by rfl, fun wz hSz => ?_⟩) (by assumption) ?_
  rotate_left
  · (first | (go_simp; done) | (go_simp; with_reducible rfl) | (obtain f1 := (unhide HF) wz hSz; clear hSz; first | (go_simp; done) | (go_simp; with_reducible rfl)))
  try simp only [Act.put, List.setIfInBounds_toArray, List.set_cons_zero, List.set_cons_succ, List.getElem_toArray, List.getElem_cons_succ, List.getElem_cons_zero]
  refine wpAnyH_take (i := 11) (oi := _) (v := ?_) rfl (by kernel_rfl) (by kernel_rfl) (by kernel_rfl) (fun _ _ _ h => h) (Or.inl ⟨by rfl, fun wz hSz => ?_⟩) (by assumption) ?_
  rotate_left
  · (first | (go_simp; done) | (go_simp; with_reducible rfl) | (obtain f1 := (unhide HF) wz hSz; clear hSz; first | (go_simp; done) | (go_simp; with_reducible rfl)))
  try simp only [Act.put, List.setIfInBounds_toArray, List.set_cons_zero, List.set_cons_succ, List.getElem_toArray, List.getElem_cons_succ, List.getElem_cons_zero]
  refine wpAnyH_take (i := 12) (oi := _) (v := ?_) rfl (by kernel_rfl) (by kernel_rfl) (by kernel_rfl) (fun _ _ _ h => h) (Or.inl ⟨by rfl, fun wz hSz => ?_⟩) (by assumption) ?_
  rotate_left
  · (first | (go_simp; done) | (go_simp; with_reducible rfl) | (obtain f1 := (unhide HF) wz hSz; clear hSz; first | (go_simp; done) | (go_simp; with_reducible rfl)))
  try simp only [Act.put, List.setIfInBounds_toArray, List.set_cons_zero, List.set_cons_succ, List.getElem_toArray, List.getElem_cons_succ, List.getElem_cons_zero]
  refine wpAnyH_take (i := 13) (oi := _) (v := ?_) rfl (by kernel_rfl) (by kernel_rfl) (by kernel_rfl) (fun _ _ _ h => h) (Or.inl ⟨by rfl, fun wz hSz => ?_⟩) (by assumption) ?_
  rotate_left
  · (first | (go_simp; done) | (go_simp; with_reducible rfl) | (obtain f1 := (unhide HF) wz hSz; clear hSz; first | (go_simp; done) | (go_simp; with_reducible rfl)))
  try simp only [Act.put, List.setIfInBounds_toArray, List.set_cons_zero, List.set_cons_succ, List.getElem_toArray, List.getElem_cons_succ, List.getElem_cons_zero]
  refine wpAnyH_take (i := 14) (oi := _) (v := ?_) rfl (by kernel_rfl) (by kernel_rfl) (by kernel_rfl) (fun _ _ _ h => h) (Or.inl ⟨by rfl, fun wz hSz => ?_⟩) (by assumption) ?_
  rotate_left
  · (first | (go_simp; done) | (go_simp; with_reducible rfl) | (obtain f1 := (unhide HF) wz hSz; clear hSz; first | (go_simp; done) | (go_simp; with_reducible rfl)))
  try simp only [Act.put, List.setIfInBounds_toArray, List.set_cons_zero, List.set_cons_succ, List.getElem_toArray, List.getElem_cons_succ, List.getElem_cons_zero]
  refine wpAnyH_done (by kernel_rfl) ?_ _
  have H1 := hide hHeld
  obtain ⟨f0, f1, f2⟩ := hHeld.cells
  clear hHeld HF
  go_upto_region 4 with (first
    | (refine wpList_loadB (ty := 23) (t := 23) (x := .tmp 6) rfl rfl digest_wide rfl (cs := ma) (unhide H1).msg (unhide HSZ).1 ?_)
    | (go_at_call 16; refine (unhide HR _ (unhide H1).ext).mono ?_; rintro e w5 ⟨rfl, hE5⟩; have H5 := hide ((unhide H1).to hE5); clear hE5)
    | (refine wpList_storeB (ty := 23) (t := 23) (x := .tmp 9) (y := .tmp 31) rfl rfl digest_wide rfl rfl (Blk.new w5 _ _) rfl (unhide HSZ).2.2.1 (unhide HSZ).2.2.2 ?_; intro w7 hb7 hc7 hz7; have H7 := hide (And.intro ((unhide H5).to (made_ext1 hc7)) hb7); clear hb7 hc7 hz7))
  have HF : Hid (∀ W, VI w ra ma (i : Int) cv pv W ∧ Blk W w5.heap.size 23 ka → W.cell? ⟨w.heap.size + 1 + 1, 0, none⟩ = some (.int .i64 (i : Int)) ∧ W.cell? ⟨w.heap.size + 1 + 1, 2, none⟩ = some pv) := hide (fun W hW => ⟨hW.1.cells.1, hW.1.cells.2.2⟩)
  clear f0 f1 f2
  refine wp_region_held_drew (S := fun W => VI w ra ma (i : Int) cv pv W ∧ Blk W w5.heap.size 23 ka) (by kernel_rfl) ⟨(unhide H7).1.to (Ext.refl _).drew, (unhide H7).2.drew⟩ (fun hHeld => ?_)
  refine wpAnyH_take (i := 0) (oi := _) (v := ?_) rfl (by kernel_rfl) (by kernel_rfl) (by kernel_rfl) (fun _ _ _ h => h) (Or.inl ⟨by rfl, fun wz hSz => ?_⟩) (by assumption) ?_
  rotate_left
  · (first | (go_simp; done) | (go_simp; with_reducible rfl) | (obtain ⟨f1, f2⟩ := (unhide HF) wz hSz; clear hSz; first | (go_simp; done) | (go_simp; with_reducible rfl)))
  try simp only [Act.put, List.setIfInBounds_toArray, List.set_cons_zero, List.set_cons_succ, List.getElem_toArray, List.getElem_cons_zero]
  refine wpAnyH_take (i := 1) (oi := _) (v := ?_) rfl (by kernel_rfl) (by kernel_rfl) (by kernel_rfl) (fun _ _ _ h => h) (Or.inl ⟨by rfl, fun wz hSz => ?_⟩) (by assumption) ?_
  rotate_left
  · (first | (go_simp; done) | (go_simp; with_reducible rfl) | (obtain ⟨f1, f2⟩ := (unhide HF) wz hSz; clear hSz; first | (go_simp; done) | (go_simp; with_reducible rfl)))
  try simp only [Act.put, List.setIfInBounds_toArray, List.set_cons_zero, List.set_cons_succ, List.getElem_toArray, List.getElem_cons_succ, List.getElem_cons_zero]
  refine wpAnyH_take (i := 2) (oi := _) (v := ?_) rfl (by kernel_rfl) (by kernel_rfl) (by kernel_rfl) (fun _ _ _ h => h) (Or.inl ⟨by rfl, fun wz hSz => ?_⟩) (by assumption) ?_
  rotate_left
  · (first | (go_simp; done) | (go_simp; with_reducible rfl) | (obtain ⟨f1, f2⟩ := (unhide HF) wz hSz; clear hSz; first | (go_simp; done) | (go_simp; with_reducible rfl)))
  try simp only [Act.put, List.setIfInBounds_toArray, List.set_cons_zero, List.set_cons_succ, List.getElem_toArray, List.getElem_cons_succ, List.getElem_cons_zero]
  refine wpAnyH_take (i := 3) (oi := _) (v := _) rfl (by kernel_rfl) (by kernel_rfl) (by kernel_rfl) (fun _ _ _ h => h) (ylb digest_wide rfl (by rfl) rfl (unhide HSZ).2.1 (fun w' hw => hw.1.root)) (by assumption) ?_
  try simp only [Act.put, List.setIfInBounds_toArray, List.set_cons_zero, List.set_cons_succ, List.getElem_toArray, List.getElem_cons_succ, List.getElem_cons_zero]
  refine wpAnyH_take (i := 4) (oi := _) (v := ?_) rfl (by kernel_rfl) (by kernel_rfl) (by kernel_rfl) (fun _ _ _ h => h) (Or.inl ⟨by rfl, fun wz hSz => ?_⟩) (by assumption) ?_
  rotate_left
  · (first | (go_simp; done) | (go_simp; with_reducible rfl) | (obtain ⟨f1, f2⟩ := (unhide HF) wz hSz; clear hSz; first | (go_simp; done) | (go_simp; with_reducible rfl)))
  try simp only [Act.put, List.setIfInBounds_toArray, List.set_cons_zero, List.set_cons_succ, List.getElem_toArray, List.getElem_cons_succ, List.getElem_cons_zero]
  refine wpAnyH_take (i := 5) (oi := _) (v := ?_) rfl (by kernel_rfl) (by kernel_rfl) (by kernel_rfl) (fun _ _ _ h => h) (Or.inl ⟨by rfl, fun wz hSz => ?_⟩) (by assumption) ?_
  rotate_left
  · (first | (go_simp; done) | (go_simp; with_reducible rfl) | (obtain ⟨f1, f2⟩ := (unhide HF) wz hSz; clear hSz; first | (go_simp; done) | (go_simp; with_reducible rfl)))
  try simp only [Act.put, List.setIfInBounds_toArray, List.set_cons_zero, List.set_cons_succ, List.getElem_toArray, List.getElem_cons_succ, List.getElem_cons_zero]
  refine wpAnyH_take (i := 6) (oi := _) (v := ?_) rfl (by kernel_rfl) (by kernel_rfl) (by kernel_rfl) (fun _ _ _ h => h) (Or.inl ⟨by rfl, fun wz hSz => ?_⟩) (by assumption) ?_
  rotate_left
  · (first | (go_simp; done) | (go_simp; with_reducible rfl) | (obtain ⟨f1, f2⟩ := (unhide HF) wz hSz; clear hSz; first | (go_simp; done) | (go_simp; with_reducible rfl)))
  try simp only [Act.put, List.setIfInBounds_toArray, List.set_cons_zero, List.set_cons_succ, List.getElem_toArray, List.getElem_cons_succ, List.getElem_cons_zero]
  refine wpAnyH_take (i := 7) (oi := _) (v := ?_) rfl (by kernel_rfl) (by kernel_rfl) (by kernel_rfl) (fun _ _ _ h => h) (Or.inl ⟨by rfl, fun wz hSz => ?_⟩) (by assumption) ?_
  rotate_left
  · (first | (go_simp; done) | (go_simp; with_reducible rfl) | (obtain ⟨f1, f2⟩ := (unhide HF) wz hSz; clear hSz; first | (go_simp; done) | (go_simp; with_reducible rfl)))
  try simp only [Act.put, List.setIfInBounds_toArray, List.set_cons_zero, List.set_cons_succ, List.getElem_toArray, List.getElem_cons_succ, List.getElem_cons_zero]
  refine wpAnyH_take (i := 8) (oi := _) (v := _) rfl (by kernel_rfl) (by kernel_rfl) (by kernel_rfl) (fun _ _ _ h => h) (ylb digest_wide rfl (by rfl) rfl (unhide HSZ).2.2.1 (fun w' hw => hw.2)) (by assumption) ?_
  try simp only [Act.put, List.setIfInBounds_toArray, List.set_cons_zero, List.set_cons_succ, List.getElem_toArray, List.getElem_cons_succ, List.getElem_cons_zero]
  refine wpAnyH_take (i := 9) (oi := _) (v := ?_) rfl (by kernel_rfl) (by kernel_rfl) (by kernel_rfl) (fun _ _ _ h => h) (Or.inl ⟨by rfl, fun wz hSz => ?_⟩) (by assumption) ?_
  rotate_left
  · (first | (go_simp; done) | (go_simp; with_reducible rfl) | (obtain ⟨f1, f2⟩ := (unhide HF) wz hSz; clear hSz; first | (go_simp; done) | (go_simp; with_reducible rfl)))
  try simp only [Act.put, List.setIfInBounds_toArray, List.set_cons_zero, List.set_cons_succ, List.getElem_toArray, List.getElem_cons_succ, List.getElem_cons_zero]
  refine wpAnyH_take (i := 10) (oi := _) (v := ?_) rfl (by kernel_rfl) (by kernel_rfl) (by kernel_rfl) (fun _ _ _ h => h) (Or.inl ⟨by rfl, fun wz hSz => ?_⟩) (by assumption) ?_
  rotate_left
  · (first | (go_simp; done) | (go_simp; with_reducible rfl) | (obtain ⟨f1, f2⟩ := (unhide HF) wz hSz; clear hSz; first | (go_simp; done) | (go_simp; with_reducible rfl)))
  try simp only [Act.put, List.setIfInBounds_toArray, List.set_cons_zero, List.set_cons_succ, List.getElem_toArray, List.getElem_cons_succ, List.getElem_cons_zero]
  refine wpAnyH_ready (rs := [11]) (by kernel_rfl) (by simp) (AllReadyH.cons (o := _) rfl (fun K hK => ?_) AllReadyH.nil)
  try go_simp
  (refine (unhide HMV _ hHeld.1.ext).mono ?_; rintro e w8 ⟨rfl, hE8⟩; have hS := And.intro (hHeld.1.to hE8) (hHeld.2.ext hE8); clear hHeld hE8)
  refine hK.out _ _ ?_ (fun hHeld => ?_)
  · exact hS
  clear hK K
  try simp only [Act.put, List.setIfInBounds_toArray, List.set_cons_zero, List.set_cons_succ, List.getElem_toArray, List.getElem_cons_succ, List.getElem_cons_zero]
  refine wpAnyH_take (i := 12) (oi := _) (v := ?_) rfl (by kernel_rfl) (by kernel_rfl) (by kernel_rfl) (fun _ _ _ h => h) (Or.inl ⟨by rfl, fun wz hSz => ?_⟩) (by assumption) ?_
  rotate_left
  · (first | (go_simp; done) | (go_simp; with_reducible rfl) | (obtain ⟨f1, f2⟩ := (unhide HF) wz hSz; clear hSz; first | (go_simp; done) | (go_simp; with_reducible rfl)))
  try simp only [Act.put, List.setIfInBounds_toArray, List.set_cons_zero, List.set_cons_succ, List.getElem_toArray, List.getElem_cons_succ, List.getElem_cons_zero]
  refine wpAnyH_take (i := 13) (oi := _) (v := ?_) rfl (by kernel_rfl) (by kernel_rfl) (by kernel_rfl) (fun _ _ _ h => h) (Or.inl ⟨by rfl, fun wz hSz => ?_⟩) (by assumption) ?_
  rotate_left
  · (first | (go_simp; done) | (go_simp; with_reducible rfl) | (obtain ⟨f1, f2⟩ := (unhide HF) wz hSz; clear hSz; first | (go_simp; done) | (go_simp; with_reducible rfl)))
  try simp only [Act.put, List.setIfInBounds_toArray, List.set_cons_zero, List.set_cons_succ, List.getElem_toArray, List.getElem_cons_succ, List.getElem_cons_zero]
  refine wpAnyH_done (by kernel_rfl) ?_ _
  have H9 := hide hHeld.1.ext
  clear hHeld
  go_wp2
  go_ret
  exact ⟨rfl, unhide H9⟩
end Go.Proofs.YtihghljfmlbfhaaDoor


namespace Go.Proofs.YtihghljfmlbfhaaDoor
open Go.RowKit
def S4 (w : World) (cv : Value) (c : List (List UInt8)) (dv : Value) (m : List UInt8) (W : World) : Prop := Ext w W ∧ Digs W cv c ∧ Reads W 1 dv 68 (icells (digC m) 68) ∧ Blk W (w.heap.size + 1) 23 (Array.replicate 16 (.int .u8 0))
theorem S4.ext {w : World} {cv : Value} {c : List (List UInt8)} {dv : Value} {m : List UInt8} {W W' : World} (h : S4 w cv c dv m W) (hE : Ext W W') : S4 w cv c dv m W' := ⟨h.1.trans hE, h.2.1.ext hE, h.2.2.1.ext hE, h.2.2.2.ext hE⟩
theorem S4.chg {w : World} {cv : Value} {c : List (List UInt8)} {dv : Value} {m : List UInt8} {W W' : World} {S : Nat → Prop} {B : Nat} (h : S4 w cv c dv m W) (hc : Chg S W W') (hS : ∀ k, S k → B ≤ k) (hB : w.heap.size + 1 < B) (hd : ∀ k, dv.ownBlock = some k → k < B) (hcv : ∀ k, cv.ownBlock = some k → k < B) : S4 w cv c dv m W' :=
  ⟨h.1.trans' hc (fun _ _ h => h.elim) (fun i hi e => by have := hS i e; omega), h.2.1.chg hc (fun k hk e => by have := hS k e; have := hcv k hk; omega), h.2.2.1.chg hc (fun k _ hk e => by have := hS k e; have := hd k hk; omega), h.2.2.2.chg hc (fun e => by have := hS _ e; omega)⟩
end Go.Proofs.YtihghljfmlbfhaaDoor


namespace Go.Proofs.YtihghljfmlbfhaaDoor
open Go.RowKit
def SC (w : World) (la : Array Value) (W : World) : Prop := Ext w W ∧ Blk W w.heap.size 23 la ∧ Blk W (w.heap.size + 1) 23 (Array.replicate 16 (.int .u8 0))
theorem SC.ext {w W W' : World} {la : Array Value} (h : SC w la W) (hE : Ext W W') : SC w la W' := ⟨h.1.trans hE, h.2.1.ext hE, h.2.2.ext hE⟩
theorem SC.start (w : World) (la : Array Value) : SC w la ((w.alloc (.cells la 23)).alloc (.cells (Array.replicate 16 (.int .u8 0)) 23)) := ⟨((Ext.refl w).alloc _).alloc _, (Blk.new w _ _).alloc _, Blk.new' _ _ _ (by simp)⟩
end Go.Proofs.YtihghljfmlbfhaaDoor


namespace Go.Proofs.YtihghljfmlbfhaaDoor
open Go.RowKit
end Go.Proofs.YtihghljfmlbfhaaDoor


namespace Go.Proofs.YtihghljfmlbfhaaDoor
open Go.RowKit
end Go.Proofs.YtihghljfmlbfhaaDoor
