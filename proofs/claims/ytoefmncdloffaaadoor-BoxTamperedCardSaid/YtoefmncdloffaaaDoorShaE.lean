
/-
  sha's compress.
-/
import Derived.Test.YtoefmncdloffaaaDoorShaD
namespace Go.Proofs.YtoefmncdloffaaaDoor
open Go.RowKit

set_option maxRecDepth 100000 in
set_option maxHeartbeats 4000000 in
theorem compress_any (h : List UInt32) (bs : List UInt8) (v : Value) (w : World) (hM : ShaMem w) (hh : h.length = 8) (hb : bs.length = 64) (hr : Reads w 1 v 64 (bs.map u8v)) :
    Calls Tryd.prog 135 #[.agg (h.map w32).toArray, v] w fun e w' => e = .returned (.agg ((shaBlock h bs).map w32).toArray) ∧ Ext w w' := by
  have HM := hide hM
  have HR := hide hr
  obtain ⟨b0, o0, c0, rfl, hc64, hcm, hb0, _⟩ := hr.sub 0 64 (by omega) (by omega)
  unfold maxLen at hcm
  clear hM hr
  have HH := hide hh
  have HB := hide hb
  clear hh hb
  generalize hcs : (h.map w32).toArray = hc
  have HC := hide hcs
  clear hcs
  go_enter Tryd.func135, Tryd.ntmps135
  go_wp2
  go_loopw [15] (fun i wr => ∃ k : Nat, k ≤ 64 ∧ i = .int .i64 k ∧ Hid (SchInv w hc bs k wr)) (fun i _ => 64 - (intOf i).toNat)
  case atStart =>
    refine ⟨0, Nat.zero_le _, rfl, hide ⟨((Blk.new w _ hc).alloc _).alloc _, ⟨_, (Blk.new' _ _ _ (by simp)).alloc _, rfl⟩, ?_, (((Ext.refl w).alloc _).alloc _).alloc _⟩⟩
    have := Blk.new' ((w.alloc (Obj.cells hc 191)).alloc (Obj.cells #[Value.int IntKind.u32 0, Value.int IntKind.u32 0, Value.int IntKind.u32 0, Value.int IntKind.u32 0, Value.int IntKind.u32 0, Value.int IntKind.u32 0, Value.int IntKind.u32 0, Value.int IntKind.u32 0] 191)) 213 (wordsTo 64 (schedAt bs 0)) (g := w.heap.size + 1 + 1) (by simp)
    rw [show wordsTo 64 (schedAt bs 0) = Array.replicate 64 (Value.int .u32 0) from wordsTo_zero 64] at this ⊢
    exact this
  case round =>
    obtain ⟨k, hk, rfl, HS⟩ := hrel
    by_cases hlt : k < 64
    · have hL := schedAt_length bs k
      obtain ⟨old, hold⟩ : ∃ old, wr.cell? ⟨w.heap.size + 1 + 1, k, none⟩ = some old := by
        rw [(unhide HS).2.2.1.cell]
        exact ⟨_, Array.getElem?_eq_getElem (by rw [wordsTo_size (by omega)]; exact hlt)⟩
      have hfz := (unhide HS).2.2.1.frozen k
      by_cases h16 : k < 16
      · have hk4 : 4 * k + 4 ≤ 64 := by omega
        obtain ⟨b1, o1, c1, e, _, _, _, hsub⟩ := ((unhide HR).ext (unhide HS).2.2.2).sub (4 * k) 4 hk4 (by omega)
        cases e
        have HQ := hide hsub
        clear hsub
        have HL := hide (show ((bs.drop (4 * k)).take 4).length = 4 from by have := unhide HB; simp; omega)
        go_wp2_with fail
        refine (load_any ((bs.drop (4 * k)).take 4) _ _ ?hl).mono ?_
        case hl =>
          rw [unhide HL, List.map_take, List.map_drop]
          exact unhide HQ
        rintro e w1 ⟨rfl, rfl⟩
        clear HQ
        generalize hx : beWord ((bs.drop (4 * k)).take 4) = x
        have HX := hide hx
        clear hx
        go_wp2
        go_roundw
        case rel =>
          exact ⟨k + 1, by omega, by go_num, hide ((unhide HS).step (Ext.refl _) hlt (by rw [if_pos h16, unhide HX]))⟩
        case measure => simp [intOf]; omega
      --BEGIN16
      · obtain ⟨j, rfl⟩ : ∃ j, k = j + 16 := ⟨k - 16, by omega⟩
        have cx : ∀ i, i < j + 16 → wr.cell? ⟨w.heap.size + 1 + 1, i, none⟩ = some (.int .u32 (((schedAt bs (j + 16)).getD i 0).toNat : Int)) := fun i hi => by
          rw [(unhide HS).2.2.1.cell]
          exact wordsTo_get (by omega)
        have HN := hide (show schedNext (schedAt bs (j + 16)) = (schedAt bs (j + 16)).getD j 0 + ((rotrW ((schedAt bs (j + 16)).getD (j + 1) 0) 7 ^^^ rotrW ((schedAt bs (j + 16)).getD (j + 1) 0) 18) ^^^ ((schedAt bs (j + 16)).getD (j + 1) 0 >>> 3)) + (schedAt bs (j + 16)).getD (j + 9) 0 +
            ((rotrW ((schedAt bs (j + 16)).getD (j + 14) 0) 17 ^^^ rotrW ((schedAt bs (j + 16)).getD (j + 14) 0) 19) ^^^ ((schedAt bs (j + 16)).getD (j + 14) 0 >>> 10)) from by
          unfold schedNext
          simp only [hL, show j + 16 - 15 = j + 1 from by omega, show j + 16 - 2 = j + 14 from by omega, show j + 16 - 16 = j from by omega, show j + 16 - 7 = j + 9 from by omega])
        have c0' := cx j (by omega)
        have c1 := cx (j + 1) (by omega)
        have c9 := cx (j + 9) (by omega)
        have c14 := cx (j + 14) (by omega)
        clear cx
        generalize (schedAt bs (j + 16)).getD j 0 = x0 at *
        generalize (schedAt bs (j + 16)).getD (j + 1) 0 = x1 at *
        generalize (schedAt bs (j + 16)).getD (j + 9) 0 = x9 at *
        generalize (schedAt bs (j + 16)).getD (j + 14) 0 = x14 at *
        have d16 : decide ((j : Int) + 16 < 16) = false := decide_eq_false (by omega)
        have d64 : decide ((j : Int) + 16 < 64) = true := decide_eq_true (by omega)
        have hj : j < 48 := by omega
        clear h16 hk hlt
        go_upto_region 7 with fail
        have i15 : (((j + 16 : Nat) : Int) - 15) = ((j + 1 : Nat) : Int) := by omega
        have i2 : (((j + 16 : Nat) : Int) - 2) = ((j + 14 : Nat) : Int) := by omega
        go_quiet (fail)
        go_upto_region 8 with fail
        have i16 : IntKind.i64.wrap (((j + 16 : Nat) : Int) - 16) = (j : Int) := (IntWalk.i64_in _ (by omega)).trans (by omega)
        have i7 : IntKind.i64.wrap (((j + 16 : Nat) : Int) - 7) = ((j + 9 : Nat) : Int) := (IntWalk.i64_in _ (by omega)).trans (by omega)
        have i7' : IntKind.i64.wrap ((j : Int) + 16 - 7) = (j : Int) + 9 := (IntWalk.i64_in _ (by omega)).trans (by omega)
        have i9 : IntKind.i64.wrap ((j : Int) + 9) = (j : Int) + 9 := IntWalk.i64_in _ (by omega)
        have i0 : IntKind.i64.wrap (j : Int) = (j : Int) := IntWalk.i64_in _ (by omega)
        have b0 : (0 : Int) ≤ (j : Int) + 9 ∧ (j : Int) + 9 < 64 ∧ (j : Int) < 64 ∧ (j : Int) + 16 < 64 ∧ (0 : Int) ≤ (j : Int) + 16 := by omega
        obtain ⟨b1, b2, b3, b4, b5⟩ := b0
        have t9 : ((j : Int) + 9).toNat = j + 9 := by omega
        have t16 : ((j : Int) + 16).toNat = j + 16 := by omega
        have HO := hide (And.intro c1 c14)
        clear c1 c14 i15 i2 d16 d64
        go_region_held3 (fun w' => w'.cell? ⟨w.heap.size + 1 + 1, j, none⟩ = some (.int .u32 (x0.toNat : Int)) ∧ w'.cell? ⟨w.heap.size + 1 + 1, j + 9, none⟩ = some (.int .u32 (x9.toNat : Int)) ∧ w'.cell? ⟨w.heap.size + 1 + 1, j + 16, none⟩ = some (held w' ⟨w.heap.size + 1 + 1, j + 16, none⟩) ∧ w'.frozen? ⟨w.heap.size + 1 + 1, j + 16, none⟩ = false) (first | exact ⟨c0', c9, cell_held hold, hfz⟩ | exact keepS _ (by assumption) | exact keepT _ (by omega) (by omega) (by assumption) | assumption)
          (first
            | (go_at_call 162; refine (rotr_7_18 _ _ _ ?_ ?_).mono ?_; (first | (refine new_cell _ _ _ ?_ ?_; (focus (simp; done)); (focus rfl)) | (refine old_cell _ _ (new_cell _ _ _ ?_ ?_); (focus (simp; done)); (focus rfl))); (first | (refine new_cell _ _ _ ?_ ?_; (focus (simp; done)); (focus rfl)) | (refine old_cell _ _ (new_cell _ _ _ ?_ ?_); (focus (simp; done)); (focus rfl))); rintro e w' ⟨rfl, rfl⟩)
            | (go_at_call 162; refine (rotr_17_19 _ _ _ ?_ ?_).mono ?_; (first | (refine new_cell _ _ _ ?_ ?_; (focus (simp; done)); (focus rfl)) | (refine old_cell _ _ (new_cell _ _ _ ?_ ?_); (focus (simp; done)); (focus rfl))); (first | (refine new_cell _ _ _ ?_ ?_; (focus (simp; done)); (focus rfl)) | (refine old_cell _ _ (new_cell _ _ _ ?_ ?_); (focus (simp; done)); (focus rfl))); rintro e w' ⟨rfl, rfl⟩))
        all_goals
          go_wp2
          go_roundw
          case rel =>
            rw [sched_val]
            exact ⟨j + 16 + 1, by omega, by go_num, hide ((unhide HS).step ((((Ext.refl wr).drewN _).alloc _).alloc _) (by omega) (by rw [if_neg (by omega)]; exact unhide HN))⟩
          case measure => simp [intOf]; omega
      --END16
    · obtain rfl : k = 64 := by omega
      clear hk hlt
      obtain ⟨wo, rfl⟩ : ∃ wo : World, wo = wr := ⟨_, rfl⟩
      obtain ⟨kc, hkc⟩ : ∃ kc, (shaK.map w32).toArray = kc := ⟨_, rfl⟩
      have HKC := hide hkc
      clear hkc
      have H8 := hide (show hc.size = 8 ∧ hc.all (·.oneCell') = true from by rw [← unhide HC]; exact ⟨by simpa using unhide HH, words_one h⟩)
      have HKM := hide ((unhide HM).ext (unhide HS).2.2.2).k
      go_wp2_with (first
        | (refine wpList_loadB (ty := 191) (t := 191) (x := .tmp 2) rfl rfl state_wide rfl (unhide HS).1 (unhide H8).1 ?_)
        | (refine wpList_storeB (ty := 191) (t := 191) (x := .tmp 9) (y := .tmp 64) rfl rfl state_wide rfl rfl (Blk.new _ _ _) rfl (unhide H8).1 (unhide H8).2 ?_
           intro w2 hb2 hc2 hz2
           have HQ := hide (And.intro hb2 hc2)
           have hz3 : wo.heap.size < w2.heap.size := by rw [hz2]; simp
           clear hb2 hc2 hz2)
        | (refine wpList_loadR (ty := 213) (x := .global 1) rfl rfl arr64_wide rfl (arr := kc) (cs := shaK.map w32) ?_ rfl (unhide HKC) ?_
           · exact rangeAt_chg (rangeAt_chg (unhide HKM) ((Ext.refl wo).alloc _) (fun h => h)) (unhide HQ).2 (fun e => by have := lt_of_cell ((unhide HKM) 0 _ rfl); simp at e this; omega)))
      have HE2 := hide (show Ext wo w2 from ((Ext.refl wo).alloc (.cells #[Value.int IntKind.u32 0, Value.int IntKind.u32 0, Value.int IntKind.u32 0, Value.int IntKind.u32 0, Value.int IntKind.u32 0, Value.int IntKind.u32 0, Value.int IntKind.u32 0, Value.int IntKind.u32 0] 191)).trans' (unhide HQ).2 (fun _ _ h => h) (fun i hi e => by omega))
      have HI := hide (show RndInv w hc h bs wo.heap.size 0 w2 from by
        obtain ⟨q1, ⟨o8, q5, q6⟩, q3, q4⟩ := unhide HS
        refine ⟨q1.ext (unhide HE2), ⟨o8, q5.ext (unhide HE2), q6⟩, q3.ext (unhide HE2), ?_, q4.trans (unhide HE2), q3.lt⟩
        rw [roundsAt, wordsTo_all (unhide HH), unhide HC]
        exact (unhide HQ).1)
      clear HQ HE2 HKM hz3
      go_loopw [66] (fun i wr => ∃ k : Nat, k ≤ 64 ∧ i = .int .i64 k ∧ Hid (RndInv w hc h bs wo.heap.size k wr)) (fun i _ => 64 - (intOf i).toNat)
      case atStart => exact ⟨0, Nat.zero_le _, rfl, HI⟩
      case round =>
        clear HI
        obtain ⟨k, hk, rfl, HI⟩ := hrel
        by_cases hlt : k < 64
        --BEGINR
        · have cv : ∀ i, i < 8 → wr.cell? ⟨wo.heap.size, i, none⟩ = some (.int .u32 (((roundsAt bs h k).getD i 0).toNat : Int)) := fun i hi => by
            rw [(unhide HI).2.2.2.1.cell]
            exact wordsTo_get (by rw [roundsAt_length _ _ (unhide HH)]; exact hi)
          have cw : wr.cell? ⟨w.heap.size + 1 + 1, k, none⟩ = some (.int .u32 (((sched bs).getD k 0).toNat : Int)) := by
            rw [(unhide HI).2.2.1.cell]
            exact wordsTo_get (by unfold sched; rw [schedAt_length]; exact hlt)
          have hidx : ∀ W, (Instr.index 213 (.agg kc) (.int .i64 (k : Int))).run Tryd.prog W = .ok (.int .u32 ((shaK.getD k 0).toNat : Int)) W := fun W =>
            run_index_arr (inf := _) Tryd.underlying213 (by kernel_rfl) rfl (by kernel_rfl) hlt (by rw [← unhide HKC]; exact wordsK hlt) W
          have HN := hide (show roundsAt bs h (k + 1) = shaRound (roundsAt bs h k) (shaK.getD k 0) ((sched bs).getD k 0) from rfl)
          have v0 := cv 0 (by omega)
          have v1 := cv 1 (by omega)
          have v2 := cv 2 (by omega)
          have v3 := cv 3 (by omega)
          have v4 := cv 4 (by omega)
          have v5 := cv 5 (by omega)
          have v6 := cv 6 (by omega)
          have v7 := cv 7 (by omega)
          clear cv
          unfold shaRound at HN
          generalize (roundsAt bs h k).getD 0 0 = x0 at *
          generalize (roundsAt bs h k).getD 1 0 = x1 at *
          generalize (roundsAt bs h k).getD 2 0 = x2 at *
          generalize (roundsAt bs h k).getD 3 0 = x3 at *
          generalize (roundsAt bs h k).getD 4 0 = x4 at *
          generalize (roundsAt bs h k).getD 5 0 = x5 at *
          generalize (roundsAt bs h k).getD 6 0 = x6 at *
          generalize (roundsAt bs h k).getD 7 0 = x7 at *
          generalize (sched bs).getD k 0 = xw at *
          generalize shaK.getD k 0 = xk at *
          have d64 : decide ((k : Int) < 64) = true := decide_eq_true (by omega)
          have b64 : (k : Int) < 64 := by omega
          have HO := hide (And.intro v0 (And.intro v1 (And.intro v2 (And.intro v3 (And.intro v4 (And.intro v5 v6))))))
          clear v0 v1 v2 v3
          go_upto_region 14 with fail
          have t1 : (0 : Int) ≤ (k : Int) := by omega
          clear hidx d64
          go_cut [12] (fun s12 wx => ∃ T : UInt32, s12 = .int .u32 (T.toNat : Int) ∧ Hid (T = x7 + (rotrW x4 6 ^^^ rotrW x4 11 ^^^ rotrW x4 25) + ((x4 &&& x5) ^^^ (~~~x4 &&& x6)) + xk + xw ∧ Ext wr wx))
          case first =>
            --B14
            go_region_held3 (fun w' => w'.cell? ⟨wo.heap.size, 7, none⟩ = some (.int .u32 (x7.toNat : Int)) ∧ w'.cell? ⟨wo.heap.size, 4, none⟩ = some (.int .u32 (x4.toNat : Int)) ∧ w'.cell? ⟨wo.heap.size, 5, none⟩ = some (.int .u32 (x5.toNat : Int)) ∧ w'.cell? ⟨wo.heap.size, 6, none⟩ = some (.int .u32 (x6.toNat : Int)) ∧ w'.cell? ⟨w.heap.size + 1 + 1, k, none⟩ = some (.int .u32 (xw.toNat : Int))) (first | exact ⟨v7, v4, v5, v6, cw⟩ | exact keep5 _ (by assumption) | assumption)
              (first
                | (go_at_call 162; refine (rotr_6_11_25 _ _ _ ?_ ?_ ?_).mono ?_; (refine new_cell _ _ _ ?_ ?_; (focus (simp; done)); (focus rfl)); (refine new_cell _ _ _ ?_ ?_; (focus (simp; done)); (focus rfl)); (refine new_cell _ _ _ ?_ ?_; (focus (simp; done)); (focus rfl)); rintro e w' ⟨rfl, rfl⟩))
            all_goals (go_wp2_with fail; go_meet)
            all_goals
              rw [t_val]
              exact ⟨_, rfl, hide ⟨rfl, ((Ext.refl wr).alloc _).drew⟩⟩
            --E14
          case rest =>
            obtain ⟨T, rfl, HT⟩ := hcut
            obtain ⟨wp, rfl⟩ : ∃ wp : World, wp = wc := ⟨_, rfl⟩
            clear v7 v4 v5 v6 cw
            have HP := hide (And.intro (unhide HI) (unhide HT).2)
            have v0 := Ext.cellv (unhide HT).2 (unhide HO).1
            have v1 := Ext.cellv (unhide HT).2 (unhide HO).2.1
            have v2 := Ext.cellv (unhide HT).2 (unhide HO).2.2.1
            go_upto_region 15 with fail
            go_cut [13] (fun s13 wx => ∃ U : UInt32, s13 = .int .u32 (U.toNat : Int) ∧ Hid (U = (rotrW x0 2 ^^^ rotrW x0 13 ^^^ rotrW x0 22) + (((x0 &&& x1) ^^^ (x0 &&& x2)) ^^^ (x1 &&& x2)) ∧ Ext wp wx))
            case first =>
              --B14
              go_region_held3 (fun w' => w'.cell? ⟨wo.heap.size, 0, none⟩ = some (.int .u32 (x0.toNat : Int)) ∧ w'.cell? ⟨wo.heap.size, 1, none⟩ = some (.int .u32 (x1.toNat : Int)) ∧ w'.cell? ⟨wo.heap.size, 2, none⟩ = some (.int .u32 (x2.toNat : Int))) (first | exact ⟨v0, v1, v2⟩ | exact keepc3 _ (by assumption) | assumption)
                (first
                  | (go_at_call 162; refine (rotr_2_13_22 _ _ _ ?_ ?_ ?_).mono ?_; (refine new_cell _ _ _ ?_ ?_; (focus (simp; done)); (focus rfl)); (refine new_cell _ _ _ ?_ ?_; (focus (simp; done)); (focus rfl)); (refine new_cell _ _ _ ?_ ?_; (focus (simp; done)); (focus rfl)); rintro e w' ⟨rfl, rfl⟩))
              all_goals (go_wp2_with fail; go_meet)
              all_goals
                rw [u_val]
                exact ⟨_, rfl, hide ⟨rfl, ((Ext.refl wp).alloc _).drew⟩⟩
              --E14
            case rest =>
              obtain ⟨U, rfl, HU⟩ := hcut
              have HX := hide ((unhide HT).2.trans (unhide HU).2)
              clear v0 v1 v2
              have v0 := Ext.cellv (unhide HX) (unhide HO).1
              have v1 := Ext.cellv (unhide HX) (unhide HO).2.1
              have v2 := Ext.cellv (unhide HX) (unhide HO).2.2.1
              have v3 := Ext.cellv (unhide HX) (unhide HO).2.2.2.1
              have v4 := Ext.cellv (unhide HX) (unhide HO).2.2.2.2.1
              have v5 := Ext.cellv (unhide HX) (unhide HO).2.2.2.2.2.1
              have v6 := Ext.cellv (unhide HX) (unhide HO).2.2.2.2.2.2
              have a1 : ((T.toNat : Int) + (U.toNat : Int)) % 4294967296 = ((T + U).toNat : Int) := add32 T U
              have a2 : ((x3.toNat : Int) + (T.toNat : Int)) % 4294967296 = ((x3 + T).toNat : Int) := add32 x3 T
              have HA := hide (And.intro a1 a2)
              clear a1 a2
              have HW := hide (wordsTo_size (n := 8) (show (roundsAt bs h k).length ≤ 8 from by rw [roundsAt_length _ _ (unhide HH)]; omega))
              go_wp2_with (refine wpList_storeB (ty := 191) (t := 191) (x := .tmp 9) (y := .tmp 137) rfl rfl state_wide rfl rfl ((unhide HI).2.2.2.1.ext (unhide HX)) (unhide HW) ?_ ?_ ?_; (focus rfl); (focus (rw [← Array.all_toList]; rfl)); intro w5 hb5 hc5 hz5; have HQ := hide (And.intro hb5 (And.intro hc5 hz5)); clear hb5 hc5 hz5)
              go_roundw
              case rel =>
                refine ⟨k + 1, by omega, by go_num, hide ?_⟩
                obtain ⟨q1, ⟨o8, q5, q6⟩, q3, q4, q7, q8⟩ := unhide HI
                obtain ⟨hb5, hc5, hz5⟩ := unhide HQ
                have n1 : ¬ w.heap.size = wo.heap.size := by omega
                have n2 : ¬ w.heap.size + 1 = wo.heap.size := by omega
                have n3 : ¬ w.heap.size + 1 + 1 = wo.heap.size := by omega
                refine ⟨(q1.ext (unhide HX)).chg hc5 n1, ⟨o8, (q5.ext (unhide HX)).chg hc5 n2, q6⟩, (q3.ext (unhide HX)).chg hc5 n3, ?_, (q7.trans (unhide HX)).trans' hc5 (fun _ _ h => h) (fun i hi e => by omega), q8⟩
                rw [(unhide HA).1, (unhide HA).2] at hb5
                rw [unhide HN]
                dsimp only
                rw [← (unhide HT).1, ← (unhide HU).1]
                exact hb5
              case measure => simp [intOf]; omega
        --ENDR
        · obtain rfl : k = 64 := by omega
          clear hk hlt
          obtain ⟨wq, rfl⟩ : ∃ wq : World, wq = wr := ⟨_, rfl⟩
          go_wp2
          have HR0 := hide (roundsAt_length bs h (unhide HH) 64)
          go_loopw [139] (fun i wr => ∃ k : Nat, k ≤ 8 ∧ i = .int .i64 k ∧ Hid (FinInv w hc h (roundsAt bs h 64) wo.heap.size k wr)) (fun i _ => 8 - (intOf i).toNat)
          case atStart => exact ⟨0, Nat.zero_le _, rfl, hide (FinInv.start (unhide HI))⟩
          case round =>
            clear HI
            obtain ⟨k, hk, rfl, HI⟩ := hrel
            by_cases hlt : k < 8
            · have c1 := (unhide HI).new (unhide HR0) (unhide HH) hlt
              have c2 := (unhide HI).old (unhide HC) (unhide HH) hlt
              have f1 := (unhide HI).2.2.1.frozen k
              have HST := hide (fun wr' (hE : Ext wr wr') => (unhide HI).step hE (unhide HR0) (unhide HH) hlt)
              generalize (roundsAt bs h 64).getD k 0 = xr at *
              generalize h.getD k 0 = xh at *
              have d8 : decide ((k : Int) < 8) = true := decide_eq_true (by omega)
              have b8 : (k : Int) < 8 := by omega
              have HA := hide (add32 xr xh)
              go_upto_region 21 with fail
              go_region
              all_goals
                go_wp2
                go_roundw
                case rel =>
                  rw [unhide HA]
                  exact ⟨k + 1, by omega, by go_num, hide (by first | exact (unhide HST _ (Ext.refl _)).drew | exact unhide HST _ ((Ext.refl _).drew))⟩
                case measure => simp [intOf]; omega
            · obtain rfl : k = 8 := by omega
              clear hk hlt
              obtain ⟨q1, ⟨o8, q5, q6⟩, q3, q4, q7⟩ := unhide HI
              have HQ := hide (And.intro q5 (And.intro q6 (And.intro q3 q4)))
              clear q1 q5 q6 q3 q4
              have HZ := hide (show wordsTo 8 (finAt (roundsAt bs h 64) h 8) = ((shaBlock h bs).map w32).toArray from by
                rw [finAt_end (unhide HR0) (unhide HH)]
                exact wordsTo_all (by simp; rw [unhide HR0, unhide HH]; rfl))
              have HW := hide (show (wordsTo 8 (finAt (roundsAt bs h 64) h 8)).size = 8 ∧ (wordsTo 8 (finAt (roundsAt bs h 64) h 8)).all (·.oneCell') = true from by
                rw [unhide HZ]
                exact ⟨by simp [shaBlock]; rw [show (shaRounds bs h).length = 8 from unhide HR0, unhide HH]; rfl, words_one _⟩)
              generalize wordsTo 8 (finAt (roundsAt bs h 64) h 8) = res at *
              go_wp2_with (first
                | (refine wpList_loadB (ty := 191) (t := 191) (x := .tmp 9) rfl rfl state_wide rfl (unhide HQ).2.2.1 (unhide HW).1 ?_)
                | (refine wpList_storeB (ty := 191) (t := 191) (x := .tmp 4) (y := .tmp 151) rfl rfl state_wide rfl rfl (unhide HQ).1 (unhide HQ).2.1 (unhide HW).1 (unhide HW).2 ?_
                   intro w9 hb9 hc9 hz9
                   have HV := hide (And.intro hb9 hc9)
                   clear hb9 hc9 hz9))
              refine bodyPost_ret (v := .agg res) (results_blk state_wide rfl (unhide HV).1 (unhide HW).1 rfl) rfl ⟨by rw [unhide HZ], ?_⟩
              exact (unhide HQ).2.2.2.trans' (unhide HV).2 (fun _ _ h => h) (fun i hi e => by omega)

end Go.Proofs.YtoefmncdloffaaaDoor
