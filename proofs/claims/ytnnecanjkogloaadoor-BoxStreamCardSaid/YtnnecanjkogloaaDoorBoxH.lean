/-
  The law BoxStream.
-/
import Derived.Test.YtnnecanjkogloaaDoorBoxF
namespace Go.Proofs.YtnnecanjkogloaaDoor
open Go.RowKit

def ksAt (key : List UInt8) (nonce : Int) (i : Nat) : UInt8 := (streamCat (keyS key nonce) 1000).getD i 0
theorem apply_at (key : List UInt8) (nonce : Int) (s : List UInt8) (i : Nat) (h : i < s.length) (hs : s.length ≤ 32000) : (applyS key nonce s)[i]? = some (s[i] ^^^ ksAt key nonce i) := by
  unfold applyS
  have h1 := streamS_of (keyS key nonce) s.length 1000 (by omega)
  have hl := streamCat_length (keyS key nonce) 1000
  unfold ksAt
  generalize streamCat (keyS key nonce) 1000 = sc at *
  rw [← h1, List.getElem?_zipWith, List.getElem?_eq_getElem h, List.getElem?_take, if_pos h, List.getElem?_eq_getElem (by omega)]
  simp
  rw [List.getElem?_eq_getElem (by omega)]
  rfl
theorem byte_at (s : ByteArray) (l : List UInt8) (h : s.data.toList = l) (i : Nat) (hi : i < s.size) (x : UInt8) (hx : l[i]? = some x) : s[i] = x := by
  subst h
  rw [Array.getElem?_toList] at hx
  have hi' : i < s.data.size := hi
  rw [Array.getElem?_eq_getElem hi'] at hx
  injection hx
theorem xor_mid (x y z : UInt8) : (x ^^^ z) ^^^ (y ^^^ z) = x ^^^ y := by
  rw [UInt8.xor_comm y z, UInt8.xor_assoc, ← UInt8.xor_assoc z z y, UInt8.xor_self, UInt8.zero_xor]

theorem list16v {l : List Value} (h : l.length = 16) : ∃ t0 t1 t2 t3 t4 t5 t6 t7 t8 t9 t10 t11 t12 t13 t14 t15, l = [t0, t1, t2, t3, t4, t5, t6, t7, t8, t9, t10, t11, t12, t13, t14, t15] := by
  match l, h with
  | [t0, t1, t2, t3, t4, t5, t6, t7, t8, t9, t10, t11, t12, t13, t14, t15], _ => exact ⟨t0, t1, t2, t3, t4, t5, t6, t7, t8, t9, t10, t11, t12, t13, t14, t15, rfl⟩
theorem box_field1 (n : Int) (c : ByteArray) (l : List Value) (hl : l.length = 16) : ∀ W, (Instr.field 47 (.agg (Value.int .i64 n :: Value.string c :: l).toArray) 1).run Tryd.prog W = .ok (.string c) W := by
  obtain ⟨t0, t1, t2, t3, t4, t5, t6, t7, t8, t9, t10, t11, t12, t13, t14, t15, rfl⟩ := list16v hl
  intro W
  kernel_rfl
set_option maxRecDepth 100000 in
set_option maxHeartbeats 2000000 in
theorem strm_any (key : List UInt8) (nonce : Int) (a b : ByteArray) (w : World) (hM : ShaMem w) (hk : key.length = 16) (h1 : -9223372036854775808 ≤ nonce) (h2 : nonce < 9223372036854775808) (ham : a.size ≤ 9223372036854775807) (hbm : b.size ≤ 9223372036854775807) :
    Calls Tryd.prog 13 #[.agg (key.map u8v).toArray, .int .i64 nonce, .string a, .string b] w fun e w' => e = .returned (.bool true) ∧ Ext w w' := by
  have HM := hide hM
  clear hM
  by_cases h3 : 300 < a.size
  · have d1 : decide ((300 : Int) < (a.size : Int)) = true := decide_eq_true (by omega)
    obtain ⟨arr, harr⟩ : ∃ r, (key.map u8v).toArray = r := ⟨_, rfl⟩
    rw [harr]
    clear harr
    go_enter Tryd.func13, Tryd.ntmps13
    go_wp2_with (go_at_call 29; refine (sanity6_any _ ((unhide HM).ext ((Ext.refl w).alloc _))).mono ?_; rintro e w1 ⟨rfl, hE1⟩; have H1 := hide (((Ext.refl w).alloc _).trans hE1); clear hE1)
    go_ret
    exact ⟨rfl, unhide H1⟩
  · have d1 : decide ((300 : Int) < (a.size : Int)) = false := decide_eq_false (by omega)
    by_cases h4 : 300 < b.size
    · have d2 : decide ((300 : Int) < (b.size : Int)) = true := decide_eq_true (by omega)
      obtain ⟨arr, harr⟩ : ∃ r, (key.map u8v).toArray = r := ⟨_, rfl⟩
      rw [harr]
      clear harr
      go_enter Tryd.func13, Tryd.ntmps13
      go_wp2_with (go_at_call 29; refine (sanity6_any _ ((unhide HM).ext ((Ext.refl w).alloc _))).mono ?_; rintro e w1 ⟨rfl, hE1⟩; have H1 := hide (((Ext.refl w).alloc _).trans hE1); clear hE1)
      go_ret
      exact ⟨rfl, unhide H1⟩
    · have d2 : decide ((300 : Int) < (b.size : Int)) = false := decide_eq_false (by omega)
      obtain ⟨ca, hca⟩ : ∃ c, strOf (applyS key nonce a.data.toList) = c := ⟨_, rfl⟩
      have hcal : ca.data.toList = applyS key nonce a.data.toList := by rw [← hca]; exact strOf_list _
      have hcaz : ca.size = a.size := by rw [← hca, strOf_size, applyS_length]; exact Array.length_toList
      obtain ⟨cb, hcb⟩ : ∃ c, strOf (applyS key nonce b.data.toList) = c := ⟨_, rfl⟩
      have hcbl : cb.data.toList = applyS key nonce b.data.toList := by rw [← hcb]; exact strOf_list _
      have hcbz : cb.size = b.size := by rw [← hcb, strOf_size, applyS_length]; exact Array.length_toList
      have hal : a.data.toList.length = a.size := Array.length_toList
      have hbl : b.data.toList.length = b.size := Array.length_toList
      have HX : Hid (∀ i (hia : i < a.size) (hib : i < b.size) (hia' : i < ca.size) (hib' : i < cb.size), ca[i] = a[i] ^^^ ksAt key nonce i ∧ cb[i] = b[i] ^^^ ksAt key nonce i) := hide (fun i hia hib hia' hib' => And.intro
        (by rw [byte_at ca _ hcal i hia' _ (apply_at key nonce a.data.toList i (by omega) (by omega)), Array.getElem_toList]; rfl)
        (by rw [byte_at cb _ hcbl i hib' _ (apply_at key nonce b.data.toList i (by omega) (by omega)), Array.getElem_toList]; rfl))
      have HSa := hide (fun W hW => seal_any key nonce a W hW hk h1 h2 (by omega))
      have HSb := hide (fun W hW => seal_any key nonce b W hW hk h1 h2 (by omega))
      rw [hca] at HSa
      rw [hcb] at HSb
      obtain ⟨ta, hta⟩ : ∃ l, (tagS key nonce (applyS key nonce a.data.toList)).map u8v = l := ⟨_, rfl⟩
      obtain ⟨tb, htb⟩ : ∃ l, (tagS key nonce (applyS key nonce b.data.toList)).map u8v = l := ⟨_, rfl⟩
      rw [boxV_eq, hta, boxL] at HSa
      rw [boxV_eq, htb, boxL] at HSb
      obtain ⟨arr, harr⟩ : ∃ r, (key.map u8v).toArray = r := ⟨_, rfl⟩
      have hasz : arr.size = 16 := by rw [← harr]; simpa using hk
      rw [harr] at HSa HSb ⊢
      have hczi : (ca.size : Int) = (a.size : Int) := by omega
      have hczj : (cb.size : Int) = (b.size : Int) := by omega
      have HCZ := hide (And.intro hcaz hcbz)
      have hf1 := box_field1 nonce ca ta (by rw [← hta]; simpa using tagS_length _ _ _)
      have hf2 := box_field1 nonce cb tb (by rw [← htb]; simpa using tagS_length _ _ _)
      clear hca hcal hcaz hcb hcbl hcbz hal hbl hta htb harr
      have TK := hide True.intro
      go_enter Tryd.func13, Tryd.ntmps13
      go_wp2_with (first
        | (go_at_call 29; refine (sanity6_any _ ((unhide HM).ext ((Ext.refl w).alloc _))).mono ?_; rintro e w1 ⟨rfl, hE1⟩; have H1 := hide (And.intro (((Ext.refl w).alloc _).trans hE1) ((Blk.new w 32 arr).ext hE1)); clear hE1)
        | (have TT := unhide TK; refine wpList_loadB (x := .tmp 4) rfl rfl digest_wide rfl (cs := arr) (unhide H1).2 hasz ?_; clear TT)
        | (refine wpList_loadB (x := .tmp 4) rfl rfl digest_wide rfl (cs := arr) (unhide H2).2 hasz ?_)
        | (have TT := unhide TK; clear TK; go_at_call 32; clear TT; refine (unhide HSa _ ((unhide HM).ext (unhide H1).1)).mono ?_; rintro e w2 ⟨rfl, hE2⟩; have H2 := hide (And.intro ((unhide H1).1.trans hE2) ((unhide H1).2.ext hE2)); clear hE2)
        | (go_at_call 32; refine (unhide HSb _ ((unhide HM).ext (unhide H2).1)).mono ?_; rintro e w3 ⟨rfl, hE3⟩; have H3 := hide ((unhide H2).1.trans hE3); clear hE3))
      clear hczi hczj d1 d2
      obtain ⟨hz1, hz2⟩ := unhide HCZ
      have hz3 : a.size ≤ ca.size := by omega
      have hz4 : b.size ≤ cb.size := by omega
      clear hz1 hz2
      have HE3 := hide (unhide H3)
      go_loopw [12] (fun i wr => ∃ k : Nat, k ≤ a.size ∧ i = .int .i64 k ∧ Hid (Ext w wr)) (fun i _ => a.size - (intOf i).toNat)
      case atStart => exact ⟨0, Nat.zero_le _, rfl, H3⟩
      case round =>
        obtain ⟨k, hk', rfl, HI⟩ := hrel
        by_cases hlt : k < a.size
        · have g1 : decide (k < a.size) = true := decide_eq_true hlt
          by_cases hlt2 : k < b.size
          · have g2 : decide (k < b.size) = true := decide_eq_true hlt2
            have q1 : k < ca.size := by omega
            have q2 : k < cb.size := by omega
            obtain ⟨x1, x2⟩ := unhide HX k hlt hlt2 q1 q2
            obtain ⟨z, hz⟩ : ∃ z, a[k] ^^^ b[k] = z := ⟨_, rfl⟩
            have y1 : bits BinOp.xor IntKind.u8 (ca[k].toNat : Int) (cb[k].toNat : Int) = (z.toNat : Int) := by rw [xor8, x1, x2, xor_mid, hz]
            have y2 : bits BinOp.xor IntKind.u8 (a[k].toNat : Int) (b[k].toNat : Int) = (z.toNat : Int) := by rw [xor8, hz]
            clear x1 x2 hz
            have p1 : (0 : Int) ≤ (k : Int) := by omega
            have p2 : (k : Int) < (a.size : Int) ∧ (k : Int) < (b.size : Int) ∧ (k : Int) < (ca.size : Int) ∧ (k : Int) < (cb.size : Int) := by omega
            obtain ⟨p3, p4, p5, p6⟩ := p2
            go_upto_region 11 with fail
            go_quiet (fail)
            go_wp2
            go_roundw
            case rel => exact ⟨k + 1, by omega, by go_num, hide ((unhide HI).drewN _)⟩
            case measure => simp [intOf]; omega
          · have g2 : decide (k < b.size) = false := decide_eq_false hlt2
            go_wp2
            go_ret
            exact ⟨rfl, unhide HI⟩
        · have g1 : decide (k < a.size) = false := decide_eq_false hlt
          go_wp2
          go_ret
          exact ⟨rfl, unhide HI⟩

end Go.Proofs.YtnnecanjkogloaaDoor
