/-
  The reference's compress.
-/
import Derived.Test.YtjemfefkgfoikaaDoorRefS
import Derived.Test.YtjemfefkgfoikaaDoorShaD
import Derived.Test.YtjemfefkgfoikaaDoorMore
import Derived.Test.YtjemfefkgfoikaaDoorEqB
import Derived.StillTailTactics
import Derived.BigRegion
namespace Go.Proofs.YtjemfefkgfoikaaDoor
open Go.RowKit

/-- What the first two loops keep. -/
def RSch (w : World) (bs : List UInt8) (k : Nat) (wr : World) : Prop :=
  Blk wr w.heap.size 92 (wordsTo 64 (schedAt bs k)) ∧ Ext w wr

theorem be4 (bs : List UInt8) (k : Nat) (h : 4 * k + 3 < bs.length) : beWord ((bs.drop (4 * k)).take 4) = ((((bs.getD (4 * k) 0).toUInt32 <<< 24) ||| ((bs.getD (4 * k + 1) 0).toUInt32 <<< 16)) ||| ((bs.getD (4 * k + 2) 0).toUInt32 <<< 8)) ||| (bs.getD (4 * k + 3) 0).toUInt32 := by
  have e : (bs.drop (4 * k)).take 4 = [bs.getD (4 * k) 0, bs.getD (4 * k + 1) 0, bs.getD (4 * k + 2) 0, bs.getD (4 * k + 3) 0] := by
    apply List.ext_getElem?
    intro i
    rw [List.getElem?_take, List.getElem?_drop]
    match i with
    | 0 => simp; rw [List.getElem?_eq_getElem (by omega)]; rfl
    | 1 => simp; rw [List.getElem?_eq_getElem (by omega)]; rfl
    | 2 => simp; rw [List.getElem?_eq_getElem (by omega)]; rfl
    | 3 => simp; rw [List.getElem?_eq_getElem (by omega)]; rfl
    | i + 4 => simp; omega
  rw [e]
  generalize bs.getD (4 * k) 0 = a
  generalize bs.getD (4 * k + 1) 0 = b
  generalize bs.getD (4 * k + 2) 0 = c
  generalize bs.getD (4 * k + 3) 0 = d
  unfold beWord
  simp only [List.foldl_cons, List.foldl_nil]
  apply UInt32.eq_of_toBitVec_eq
  simp
  have e1 : ∀ x : BitVec 32, (x <<< 8) <<< 8 = x <<< 16 := fun x => by rw [← BitVec.shiftLeft_add]
  have e2 : ∀ x : BitVec 32, (x <<< 16) <<< 8 = x <<< 24 := fun x => by rw [← BitVec.shiftLeft_add]
  simp only [BitVec.shiftLeft_or_distrib, e1, e2]
theorem mod8 (y : UInt8) : (y.toNat : Int) % 4294967296 = (y.toNat : Int) := by have := y.toNat_lt; omega
theorem sched_next (bs : List UInt8) (j : Nat) : schedAt bs (j + 16 + 1) = schedAt bs (j + 16) ++ [(schedAt bs (j + 16)).getD j 0 + ((rotrW ((schedAt bs (j + 16)).getD (j + 1) 0) 7 ^^^ rotrW ((schedAt bs (j + 16)).getD (j + 1) 0) 18) ^^^ ((schedAt bs (j + 16)).getD (j + 1) 0 >>> 3)) + (schedAt bs (j + 16)).getD (j + 9) 0 +
    ((rotrW ((schedAt bs (j + 16)).getD (j + 14) 0) 17 ^^^ rotrW ((schedAt bs (j + 16)).getD (j + 14) 0) 19) ^^^ ((schedAt bs (j + 16)).getD (j + 14) 0 >>> 10))] := by
  rw [schedAt, if_neg (by omega)]
  unfold schedNext
  simp only [schedAt_length, show j + 16 - 15 = j + 1 from by omega, show j + 16 - 2 = j + 14 from by omega, show j + 16 - 16 = j from by omega, show j + 16 - 7 = j + 9 from by omega]
theorem rot_6 (x : UInt32) (w : World) : Calls Tryd.prog 94 #[.int .u32 (x.toNat : Int), .int .i64 6] w fun e w' => e = .returned (.int .u32 ((rotrW x 6).toNat : Int)) ∧ ∃ k, w' = w.drewN k := rot_any x 6 _ rfl w (by omega) (by omega)
theorem rot_11 (x : UInt32) (w : World) : Calls Tryd.prog 94 #[.int .u32 (x.toNat : Int), .int .i64 11] w fun e w' => e = .returned (.int .u32 ((rotrW x 11).toNat : Int)) ∧ ∃ k, w' = w.drewN k := rot_any x 11 _ rfl w (by omega) (by omega)
theorem rot_25 (x : UInt32) (w : World) : Calls Tryd.prog 94 #[.int .u32 (x.toNat : Int), .int .i64 25] w fun e w' => e = .returned (.int .u32 ((rotrW x 25).toNat : Int)) ∧ ∃ k, w' = w.drewN k := rot_any x 25 _ rfl w (by omega) (by omega)
theorem rot_2 (x : UInt32) (w : World) : Calls Tryd.prog 94 #[.int .u32 (x.toNat : Int), .int .i64 2] w fun e w' => e = .returned (.int .u32 ((rotrW x 2).toNat : Int)) ∧ ∃ k, w' = w.drewN k := rot_any x 2 _ rfl w (by omega) (by omega)
theorem rot_13 (x : UInt32) (w : World) : Calls Tryd.prog 94 #[.int .u32 (x.toNat : Int), .int .i64 13] w fun e w' => e = .returned (.int .u32 ((rotrW x 13).toNat : Int)) ∧ ∃ k, w' = w.drewN k := rot_any x 13 _ rfl w (by omega) (by omega)
theorem rot_22 (x : UInt32) (w : World) : Calls Tryd.prog 94 #[.int .u32 (x.toNat : Int), .int .i64 22] w fun e w' => e = .returned (.int .u32 ((rotrW x 22).toNat : Int)) ∧ ∃ k, w' = w.drewN k := rot_any x 22 _ rfl w (by omega) (by omega)
theorem rot_7 (x : UInt32) (w : World) : Calls Tryd.prog 94 #[.int .u32 (x.toNat : Int), .int .i64 7] w fun e w' => e = .returned (.int .u32 ((rotrW x 7).toNat : Int)) ∧ ∃ k, w' = w.drewN k := rot_any x 7 _ rfl w (by omega) (by omega)
theorem rot_18 (x : UInt32) (w : World) : Calls Tryd.prog 94 #[.int .u32 (x.toNat : Int), .int .i64 18] w fun e w' => e = .returned (.int .u32 ((rotrW x 18).toNat : Int)) ∧ ∃ k, w' = w.drewN k := rot_any x 18 _ rfl w (by omega) (by omega)
theorem rot_17 (x : UInt32) (w : World) : Calls Tryd.prog 94 #[.int .u32 (x.toNat : Int), .int .i64 17] w fun e w' => e = .returned (.int .u32 ((rotrW x 17).toNat : Int)) ∧ ∃ k, w' = w.drewN k := rot_any x 17 _ rfl w (by omega) (by omega)
theorem rot_19 (x : UInt32) (w : World) : Calls Tryd.prog 94 #[.int .u32 (x.toNat : Int), .int .i64 19] w fun e w' => e = .returned (.int .u32 ((rotrW x 19).toNat : Int)) ∧ ∃ k, w' = w.drewN k := rot_any x 19 _ rfl w (by omega) (by omega)
theorem sig_val (x r s : UInt32) (n : Nat) (d : Int) (hd : d = 2 ^ n) (hn : n < 32) : bits BinOp.xor IntKind.u32 (bits BinOp.xor IntKind.u32 (r.toNat : Int) (s.toNat : Int)) ((x.toNat : Int) / d) = (((r ^^^ s) ^^^ (x >>> UInt32.ofNat n)).toNat : Int) := by
  rw [hd, shr32 x n hn, xor32, xor32]
theorem add4 (a b c d : UInt32) : ((a.toNat : Int) + (b.toNat : Int) + (c.toNat : Int) + (d.toNat : Int)) % 4294967296 = ((a + b + c + d).toNat : Int) := by
  rw [UInt32.toNat_add, UInt32.toNat_add, UInt32.toNat_add]
  omega
theorem rt_val (x7 x4 x5 x6 xk xw r1 r2 r3 : UInt32) : ((x7.toNat : Int) + bits BinOp.xor IntKind.u32 (bits BinOp.xor IntKind.u32 (r1.toNat : Int) (r2.toNat : Int)) (r3.toNat : Int) + bits BinOp.xor IntKind.u32 (bits BinOp.and IntKind.u32 (x4.toNat : Int) (x5.toNat : Int)) (bits BinOp.and IntKind.u32 (bits BinOp.xor IntKind.u32 4294967295 (x4.toNat : Int)) (x6.toNat : Int)) + (xk.toNat : Int) + (xw.toNat : Int)) % 4294967296 =
    ((x7 + (r1 ^^^ r2 ^^^ r3) + ((x4 &&& x5) ^^^ (~~~x4 &&& x6)) + xk + xw).toNat : Int) := by
  rw [show (4294967295 : Int) = IntKind.u32.max from rfl, not32, and32, and32, xor32, xor32, xor32]
  simp only [UInt32.toNat_add]
  omega
theorem ru_val (T x0 x1 x2 r1 r2 r3 : UInt32) : ((T.toNat : Int) + (bits BinOp.xor IntKind.u32 (bits BinOp.xor IntKind.u32 (r1.toNat : Int) (r2.toNat : Int)) (r3.toNat : Int) + bits BinOp.xor IntKind.u32 (bits BinOp.xor IntKind.u32 (bits BinOp.and IntKind.u32 (x0.toNat : Int) (x1.toNat : Int)) (bits BinOp.and IntKind.u32 (x0.toNat : Int) (x2.toNat : Int))) (bits BinOp.and IntKind.u32 (x1.toNat : Int) (x2.toNat : Int))) % 4294967296) % 4294967296 =
    ((T + ((r1 ^^^ r2 ^^^ r3) + (((x0 &&& x1) ^^^ (x0 &&& x2)) ^^^ (x1 &&& x2)))).toNat : Int) := by
  rw [and32, and32, and32, xor32, xor32, xor32, xor32]
  simp only [UInt32.toNat_add]
  omega
theorem fin_words (R v : List UInt32) (hR : R.length = 8) (hv : v.length = 8) : List.zipWith (· + ·) R v = [v.getD 0 0 + R.getD 0 0, v.getD 1 0 + R.getD 1 0, v.getD 2 0 + R.getD 2 0, v.getD 3 0 + R.getD 3 0, v.getD 4 0 + R.getD 4 0, v.getD 5 0 + R.getD 5 0, v.getD 6 0 + R.getD 6 0, v.getD 7 0 + R.getD 7 0] := by
  match R, hR, v, hv with
  | [a, b, c, d, e, f, g, h], _, [a', b', c', d', e', f', g', h'], _ =>
    simp [UInt32.add_comm]
theorem be4_val (a b c d : UInt8) : bits BinOp.or IntKind.u32 (bits BinOp.or IntKind.u32 (bits BinOp.or IntKind.u32 ((a.toNat : Int) * 16777216 % 4294967296) ((b.toNat : Int) * 65536 % 4294967296)) ((c.toNat : Int) * 256 % 4294967296)) (d.toNat : Int) =
    ((((a.toUInt32 <<< 24) ||| (b.toUInt32 <<< 16)) ||| (c.toUInt32 <<< 8)) ||| d.toUInt32).toNat := by
  have h24 := shl32 a.toUInt32 24 (by omega)
  have h16 := shl32 b.toUInt32 16 (by omega)
  have h8 := shl32 c.toUInt32 8 (by omega)
  rw [show (16777216 : Int) = 2 ^ 24 from rfl, show (65536 : Int) = 2 ^ 16 from rfl, show (256 : Int) = 2 ^ 8 from rfl, conv32, conv32 b, conv32 c, conv32 d, h24, h16, h8, or32, or32, or32]
  rfl

set_option maxRecDepth 100000 in
set_option maxHeartbeats 4000000 in
theorem rcompress_any (v : List UInt32) (bs : List UInt8) (vv bv kv : Value) (w : World) (hv : v.length = 8) (hb : bs.length = 64) (hrv : Reads w 1 vv 8 (v.map w32)) (hrb : Reads w 1 bv 64 (bs.map u8v)) (hrk : Reads w 1 kv 64 (shaK.map w32)) :
    Calls Tryd.prog 85 #[vv, bv, kv] w fun e w' => ∃ A, e = .returned (.slice A 8 8) ∧ Reads w' 1 (.slice A 8 8) 8 ((shaBlock v bs).map w32) ∧ Ext w w' := by
  have HV := hide (And.intro hv hrv)
  have HB := hide (And.intro hb hrb)
  have HK := hide hrk
  obtain ⟨b0, o0, c0, rfl, _, _, _, _⟩ := hrv.sub 0 8 (by omega) (by omega)
  obtain ⟨b1, o1, c1, rfl, _, _, _, _⟩ := hrb.sub 0 64 (by omega) (by omega)
  obtain ⟨b2, o2, c2, rfl, _, _, _, _⟩ := hrk.sub 0 64 (by omega) (by omega)
  clear hv hb hrv hrb hrk
  go_enter Tryd.func85, Tryd.ntmps85
  have hmk : ∀ W, (Instr.makeSlice 108 (.int .i64 64) (.int .i64 64)).run Tryd.prog W = .ok (.slice (some ⟨W.heap.size, 0, none⟩) 64 64) (W.alloc (.cells (wordsTo 64 (schedAt bs 0)) 92)) := fun _ => by kernel_rfl
  go_wp2
  clear hmk
  go_loopw [8] (fun i wr => ∃ k : Nat, k ≤ 16 ∧ i = .int .i64 k ∧ Hid (RSch w bs k wr)) (fun i _ => 16 - (intOf i).toNat)
  case atStart => exact ⟨0, Nat.zero_le _, rfl, hide ⟨Blk.new _ _ _, (Ext.refl w).alloc _⟩⟩
  case round =>
    obtain ⟨k, hk, rfl, HS⟩ := hrel
    by_cases hlt : k < 16
    --BEGIN1
    · have hL := schedAt_length bs k
      have hw : wr.cell? ⟨w.heap.size, k, none⟩ = some (.int .u32 0) ∧ wr.frozen? ⟨w.heap.size, k, none⟩ = false := ⟨by
        rw [(unhide HS).1.cell]
        unfold wordsTo
        rw [List.getElem?_toArray, List.getElem?_append_right (by simp; omega), List.getElem?_replicate, if_pos (by simp; omega)], (unhide HS).1.frozen k⟩
      obtain ⟨hw1, hw2⟩ := hw
      have hr1 := (unhide HB).2.ext (unhide HS).2
      have q0 := hr1.byteAt (j := 4 * k) (by rw [(unhide HB).1]; omega)
      have q1 := hr1.byteAt (j := 4 * k + 1) (by rw [(unhide HB).1]; omega)
      have q2 := hr1.byteAt (j := 4 * k + 2) (by rw [(unhide HB).1]; omega)
      have q3 := hr1.byteAt (j := 4 * k + 3) (by rw [(unhide HB).1]; omega)
      clear hr1
      have HX := hide (be4 bs k (by rw [(unhide HB).1]; omega))
      have HE := hide (fun a b c d => be4_val a b c d)
      generalize bs.getD (4 * k) 0 = y0 at *
      generalize bs.getD (4 * k + 1) 0 = y1 at *
      generalize bs.getD (4 * k + 2) 0 = y2 at *
      generalize bs.getD (4 * k + 3) 0 = y3 at *
      have e0 : IntKind.i64.wrap (4 * (k : Int)) = 4 * (k : Int) := IntWalk.i64_in _ (by omega)
      have e1 : IntKind.i64.wrap (4 * (k : Int) + 1) = 4 * (k : Int) + 1 := IntWalk.i64_in _ (by omega)
      have e2 : IntKind.i64.wrap (4 * (k : Int) + 2) = 4 * (k : Int) + 2 := IntWalk.i64_in _ (by omega)
      have e3 : IntKind.i64.wrap (4 * (k : Int) + 3) = 4 * (k : Int) + 3 := IntWalk.i64_in _ (by omega)
      have t0 : (4 * (k : Int)).toNat = 4 * k := by omega
      have t1 : (4 * (k : Int) + 1).toNat = 4 * k + 1 := by omega
      have t2 : (4 * (k : Int) + 2).toNat = 4 * k + 2 := by omega
      have t3 : (4 * (k : Int) + 3).toNat = 4 * k + 3 := by omega
      have z : (0 : Int) ≤ 4 * (k : Int) ∧ (0 : Int) ≤ 4 * (k : Int) + 1 ∧ (0 : Int) ≤ 4 * (k : Int) + 2 ∧ (0 : Int) ≤ 4 * (k : Int) + 3 ∧ 4 * (k : Int) < 64 ∧ 4 * (k : Int) + 1 < 64 ∧ 4 * (k : Int) + 2 < 64 ∧ 4 * (k : Int) + 3 < 64 ∧ (k : Int) < 64 := by omega
      obtain ⟨z1, z2, z3, z4, z5, z6, z7, z8, z9⟩ := z
      go_wp2_with fail
      go_still_tail 36, (by kernel_rfl)
      clear q0 q1 q2 q3
      change wpList _ _ _ _ _ wr.drew
      go_wp2
      go_roundw
      case rel =>
        refine ⟨k + 1, by omega, by go_num, hide ⟨?_, (Ext.setCell (unhide HS).2.drew (by simp) _)⟩⟩
        have h1 := (unhide HS).1.drew.set_ k (.int .u32 ((beWord ((bs.drop (4 * k)).take 4)).toNat : Int))
        rw [wordsTo_set' _ (schedAt_length bs k) (by omega)] at h1
        simp only [mod8]
        rw [unhide HE, ← unhide HX]
        rw [schedAt, if_pos hlt]
        first | exact h1.drew | exact h1
      case measure => simp [intOf]; omega
    --END1
    · obtain rfl : k = 16 := by omega
      clear hk hlt
      obtain ⟨wo, rfl⟩ : ∃ wo : World, wo = wr := ⟨_, rfl⟩
      go_wp2
      go_loopw [9] (fun i wr => ∃ k : Nat, 16 ≤ k ∧ k ≤ 64 ∧ i = .int .i64 k ∧ Hid (RSch w bs k wr)) (fun i _ => 64 - (intOf i).toNat)
      case atStart => exact ⟨16, by omega, by omega, rfl, HS⟩
      case round =>
        clear HS
        obtain ⟨k, hk16, hk, rfl, HS⟩ := hrel
        by_cases hlt : k < 64
        --BEGIN2
        · obtain ⟨j, rfl⟩ : ∃ j, k = j + 16 := ⟨k - 16, by omega⟩
          have hL := schedAt_length bs (j + 16)
          have cx : ∀ i, i < j + 16 → wr.cell? ⟨w.heap.size, i, none⟩ = some (.int .u32 (((schedAt bs (j + 16)).getD i 0).toNat : Int)) := fun i hi => by
            rw [(unhide HS).1.cell]
            exact wordsTo_get (by omega)
          have hold : wr.cell? ⟨w.heap.size, j + 16, none⟩ = some (.int .u32 0) := by
            rw [(unhide HS).1.cell]
            unfold wordsTo
            rw [List.getElem?_toArray, List.getElem?_append_right (by simp; omega), List.getElem?_replicate, if_pos (by simp; omega)]
          have HN := hide (sched_next bs j)
          have HC := hide (And.intro hold (And.intro (cx j (by omega)) (cx (j + 9) (by omega))))
          have c1 := cx (j + 1) (by omega)
          have c14 := cx (j + 14) (by omega)
          clear cx hold
          generalize (schedAt bs (j + 16)).getD j 0 = x0 at *
          generalize (schedAt bs (j + 16)).getD (j + 1) 0 = x1 at *
          generalize (schedAt bs (j + 16)).getD (j + 9) 0 = x9 at *
          generalize (schedAt bs (j + 16)).getD (j + 14) 0 = x14 at *
          have d64 : decide ((j : Int) + 16 < 64) = true := decide_eq_true (by omega)
          have hj : j < 48 := by omega
          clear hk16 hk hlt
          go_upto_region 9 with fail
          have i15 : (((j + 16 : Nat) : Int) - 15) = ((j + 1 : Nat) : Int) := by omega
          go_cut [10] (fun s wx => ∃ T : UInt32, s = .int .u32 (T.toNat : Int) ∧ Hid (T = (rotrW x1 7 ^^^ rotrW x1 18) ^^^ (x1 >>> 3) ∧ Ext wr wx))
          case first =>
            go_quiet ((first | (go_at_call 94; with_reducible exact Calls.quiet_of (rot_7 x1 _)) | (go_at_call 94; with_reducible exact Calls.quiet_of (rot_18 x1 _))))
            go_wp2_with fail
            go_meet
            exact ⟨_, int_eq (sig_val x1 _ _ 3 8 rfl (by omega)), hide ⟨rfl, (Ext.refl wr).drewN _⟩⟩
          case rest =>
            obtain ⟨T, rfl, HT⟩ := hcut
            obtain ⟨wp, rfl⟩ : ∃ wp : World, wp = wc := ⟨_, rfl⟩
            clear c1 i15
            have c14' := Ext.cellv (unhide HT).2 c14
            clear c14
            go_upto_region 10 with fail
            have i2 : (((j + 16 : Nat) : Int) - 2) = ((j + 14 : Nat) : Int) := by omega
            go_cut [11] (fun s wx => ∃ U : UInt32, s = .int .u32 (U.toNat : Int) ∧ Hid (U = (rotrW x14 17 ^^^ rotrW x14 19) ^^^ (x14 >>> 10) ∧ Ext wr wx))
            case first =>
              go_quiet ((first | (go_at_call 94; with_reducible exact Calls.quiet_of (rot_17 x14 _)) | (go_at_call 94; with_reducible exact Calls.quiet_of (rot_19 x14 _))))
              go_wp2_with fail
              go_meet
              exact ⟨_, int_eq (sig_val x14 _ _ 10 1024 rfl (by omega)), hide ⟨rfl, (unhide HT).2.drewN _⟩⟩
            case rest =>
              obtain ⟨U, rfl, HU⟩ := hcut
              obtain ⟨wq, rfl⟩ : ∃ wq : World, wq = wc := ⟨_, rfl⟩
              clear c14' i2
              have f0 := Ext.cellv (unhide HU).2 (unhide HC).1
              have f1 := Ext.cellv (unhide HU).2 (unhide HC).2.1
              have f2 := Ext.cellv (unhide HU).2 (unhide HC).2.2
              have ff := ((unhide HS).1.ext (unhide HU).2).frozen (j + 16)
              have i16 : IntKind.i64.wrap (((j + 16 : Nat) : Int) - 16) = (j : Int) := (IntWalk.i64_in _ (by omega)).trans (by omega)
              have i7 : IntKind.i64.wrap (((j + 16 : Nat) : Int) - 7) = ((j + 9 : Nat) : Int) := (IntWalk.i64_in _ (by omega)).trans (by omega)
              have i7' : IntKind.i64.wrap ((j : Int) + 16 - 7) = (j : Int) + 9 := (IntWalk.i64_in _ (by omega)).trans (by omega)
              have i9 : IntKind.i64.wrap ((j : Int) + 9) = (j : Int) + 9 := IntWalk.i64_in _ (by omega)
              have i0 : IntKind.i64.wrap (j : Int) = (j : Int) := IntWalk.i64_in _ (by omega)
              have t9 : ((j : Int) + 9).toNat = j + 9 := by omega
              have t16 : ((j : Int) + 16).toNat = j + 16 := by omega
              have b0 : (0 : Int) ≤ (j : Int) + 9 ∧ (j : Int) + 9 < 64 ∧ (j : Int) < 64 ∧ (j : Int) + 16 < 64 ∧ (0 : Int) ≤ (j : Int) + 16 := by omega
              obtain ⟨b1, b2, b3, b4, b5⟩ := b0
              go_upto_region 11 with fail
              go_still_tail 18, (by kernel_rfl)
              clear f1 f2
              change wpList _ _ _ _ _ wq.drew
              go_wp2
              go_roundw
              case rel =>
                repeat apply Exists.intro
                refine ⟨?_, rfl⟩
                refine ⟨j + 16 + 1, by omega, by omega, by go_num, hide ⟨?_, ?_⟩⟩
                · have h1 := (((unhide HS).1.ext (unhide HU).2).set_ (j + 16) (.int .u32 ((x0 + T + x9 + U).toNat : Int))).drew
                  rw [wordsTo_set' _ (schedAt_length bs (j + 16)) (by omega)] at h1
                  rw [unhide HN, add4, ← (unhide HT).1, ← (unhide HU).1]
                  exact h1
                · exact (((unhide HS).2.trans (unhide HU).2).setCell (by simp) _).drew
              case measure => simp [intOf]; omega
        --END2
        · obtain rfl : k = 64 := by omega
          clear hk16 hk hlt
          obtain ⟨wp, rfl⟩ : ∃ wp : World, wp = wr := ⟨_, rfl⟩
          have hv := (unhide HV).2.ext (unhide HS).2
          have v0 := hv.wordAt (j := 0) (by rw [(unhide HV).1]; omega)
          have v1 := hv.wordAt (j := 1) (by rw [(unhide HV).1]; omega)
          have v2 := hv.wordAt (j := 2) (by rw [(unhide HV).1]; omega)
          have v3 := hv.wordAt (j := 3) (by rw [(unhide HV).1]; omega)
          have v4 := hv.wordAt (j := 4) (by rw [(unhide HV).1]; omega)
          have v5 := hv.wordAt (j := 5) (by rw [(unhide HV).1]; omega)
          have v6 := hv.wordAt (j := 6) (by rw [(unhide HV).1]; omega)
          have v7 := hv.wordAt (j := 7) (by rw [(unhide HV).1]; omega)
          rw [Nat.add_zero] at v0
          have HVC := hide (And.intro v0 (And.intro v1 (And.intro v2 (And.intro v3 (And.intro v4 (And.intro v5 (And.intro v6 v7)))))))
          clear hv
          go_wp2
          clear v0 v1 v2 v3 v4 v5 v6 v7
          go_loopw [12, 13, 14, 15, 16, 17, 18, 19, 20] (fun a b c d e f g h i wr => ∃ k : Nat, k ≤ 64 ∧ i = .int .i64 k ∧ a = .int .u32 (((roundsAt bs v k).getD 0 0).toNat : Int) ∧ b = .int .u32 (((roundsAt bs v k).getD 1 0).toNat : Int) ∧ c = .int .u32 (((roundsAt bs v k).getD 2 0).toNat : Int) ∧ d = .int .u32 (((roundsAt bs v k).getD 3 0).toNat : Int) ∧ e = .int .u32 (((roundsAt bs v k).getD 4 0).toNat : Int) ∧ f = .int .u32 (((roundsAt bs v k).getD 5 0).toNat : Int) ∧ g = .int .u32 (((roundsAt bs v k).getD 6 0).toNat : Int) ∧ h = .int .u32 (((roundsAt bs v k).getD 7 0).toNat : Int) ∧ Hid (Ext wp wr)) (fun _ _ _ _ _ _ _ _ i _ => 64 - (intOf i).toNat)
          case atStart => exact ⟨0, Nat.zero_le _, rfl, rfl, rfl, rfl, rfl, rfl, rfl, rfl, rfl, hide (Ext.refl _)⟩
          case round =>
            obtain ⟨k, hk, rfl, rfl, rfl, rfl, rfl, rfl, rfl, rfl, rfl, HE⟩ := hrel
            by_cases hlt : k < 64
            · have cw : wr.cell? ⟨w.heap.size, k, none⟩ = some (.int .u32 (((sched bs).getD k 0).toNat : Int)) := by
                rw [((unhide HS).1.ext (unhide HE)).cell]
                exact wordsTo_get (by rw [schedAt_length]; exact hlt)
              have ck := ((unhide HK).ext ((unhide HS).2.trans (unhide HE))).wordAt (j := k) hlt
              have HN := hide (show roundsAt bs v (k + 1) = shaRound (roundsAt bs v k) (shaK.getD k 0) ((sched bs).getD k 0) from rfl)
              unfold shaRound at HN
              generalize (roundsAt bs v k).getD 0 0 = x0 at *
              generalize (roundsAt bs v k).getD 1 0 = x1 at *
              generalize (roundsAt bs v k).getD 2 0 = x2 at *
              generalize (roundsAt bs v k).getD 3 0 = x3 at *
              generalize (roundsAt bs v k).getD 4 0 = x4 at *
              generalize (roundsAt bs v k).getD 5 0 = x5 at *
              generalize (roundsAt bs v k).getD 6 0 = x6 at *
              generalize (roundsAt bs v k).getD 7 0 = x7 at *
              generalize (sched bs).getD k 0 = xw at *
              generalize shaK.getD k 0 = xk at *
              have d64 : decide ((k : Int) < 64) = true := decide_eq_true (by omega)
              have b64 : (k : Int) < 64 := by omega
              have t1 : (0 : Int) ≤ (k : Int) := by omega
              go_upto_region 23 with fail
              clear d64
              go_cut [21] (fun s wx => ∃ T : UInt32, s = .int .u32 (T.toNat : Int) ∧ Hid (T = x7 + (rotrW x4 6 ^^^ rotrW x4 11 ^^^ rotrW x4 25) + ((x4 &&& x5) ^^^ (~~~x4 &&& x6)) + xk + xw ∧ Ext wr wx))
              case first =>
                go_quiet ((first | (go_at_call 94; with_reducible exact Calls.quiet_of (rot_6 x4 _)) | (go_at_call 94; with_reducible exact Calls.quiet_of (rot_11 x4 _)) | (go_at_call 94; with_reducible exact Calls.quiet_of (rot_25 x4 _))))
                go_wp2_with fail
                go_meet
                exact ⟨_, int_eq (rt_val x7 x4 x5 x6 xk xw _ _ _), hide ⟨rfl, (Ext.refl wr).drewN _⟩⟩
              case rest =>
                obtain ⟨T, rfl, HT⟩ := hcut
                obtain ⟨wq, rfl⟩ : ∃ wq : World, wq = wc := ⟨_, rfl⟩
                clear cw ck
                go_wp2_with (first
                  | (go_at_call 94; with_reducible refine (rot_2 x0 _).mono ?_; rintro e w' ⟨rfl, n2, rfl⟩)
                  | (go_at_call 94; with_reducible refine (rot_13 x0 _).mono ?_; rintro e w' ⟨rfl, n13, rfl⟩)
                  | (go_at_call 94; with_reducible refine (rot_22 x0 _).mono ?_; rintro e w' ⟨rfl, n22, rfl⟩))
                go_roundw
                case rel =>
                  repeat apply Exists.intro
                  refine ⟨?_, rfl⟩
                  have a2 : ((x3.toNat : Int) + (T.toNat : Int)) % 4294967296 = ((x3 + T).toNat : Int) := add32 x3 T
                  refine ⟨k + 1, by omega, by go_num, int_eq ?_, ?_, ?_, ?_, int_eq ?_, ?_, ?_, ?_, hide (((unhide HE).trans (unhide HT).2).drewN _)⟩
                  · rw [ru_val, unhide HN, (unhide HT).1]
                    rfl
                  all_goals rw [unhide HN]
                  · rfl
                  · rfl
                  · rfl
                  · rw [a2, (unhide HT).1]; rfl
                  · rfl
                  · rfl
                  · rfl
                case measure => simp [intOf]; omega
            · obtain rfl : k = 64 := by omega
              clear hk hlt
              obtain ⟨wq, rfl⟩ : ∃ wq : World, wq = wr := ⟨_, rfl⟩
              obtain ⟨v0, v1, v2, v3, v4, v5, v6, v7⟩ := unhide HVC
              have v0 := Ext.cellv (unhide HE) v0
              have v1 := Ext.cellv (unhide HE) v1
              have v2 := Ext.cellv (unhide HE) v2
              have v3 := Ext.cellv (unhide HE) v3
              have v4 := Ext.cellv (unhide HE) v4
              have v5 := Ext.cellv (unhide HE) v5
              have v6 := Ext.cellv (unhide HE) v6
              have v7 := Ext.cellv (unhide HE) v7
              have HR := hide (fin_words (roundsAt bs v 64) v (roundsAt_length _ _ (unhide HV).1 64) (unhide HV).1)
              generalize (roundsAt bs v 64).getD 0 0 = r0 at *
              generalize (roundsAt bs v 64).getD 1 0 = r1 at *
              generalize (roundsAt bs v 64).getD 2 0 = r2 at *
              generalize (roundsAt bs v 64).getD 3 0 = r3 at *
              generalize (roundsAt bs v 64).getD 4 0 = r4 at *
              generalize (roundsAt bs v 64).getD 5 0 = r5 at *
              generalize (roundsAt bs v 64).getD 6 0 = r6 at *
              generalize (roundsAt bs v 64).getD 7 0 = r7 at *
              generalize v.getD 0 0 = y0 at *
              generalize v.getD 1 0 = y1 at *
              generalize v.getD 2 0 = y2 at *
              generalize v.getD 3 0 = y3 at *
              generalize v.getD 4 0 = y4 at *
              generalize v.getD 5 0 = y5 at *
              generalize v.getD 6 0 = y6 at *
              generalize v.getD 7 0 = y7 at *
              go_upto_region 33 with fail
              go_still_tail 40, (by kernel_rfl)
              clear v0 v1 v2 v3 v4 v5 v6 v7
              change wpList _ _ _ _ _ wq.drew
              go_wp2
              go_ret
              refine ⟨_, rfl, ?_, (((((unhide HS).2.trans (unhide HE)).drew).alloc _))⟩
              simp only [add32]
              have hz : (shaBlock v bs).map w32 = [w32 (y0 + r0), w32 (y1 + r1), w32 (y2 + r2), w32 (y3 + r3), w32 (y4 + r4), w32 (y5 + r5), w32 (y6 + r6), w32 (y7 + r7)] := by
                unfold shaBlock shaRounds
                rw [unhide HR]
                rfl
              rw [hz]
              exact (Reads.newM wq _ _ _ 8 8 _ rfl rfl (Nat.le_refl _) (by unfold maxLen; omega) rfl).ext ((Ext.refl _).drew)

end Go.Proofs.YtjemfefkgfoikaaDoor
