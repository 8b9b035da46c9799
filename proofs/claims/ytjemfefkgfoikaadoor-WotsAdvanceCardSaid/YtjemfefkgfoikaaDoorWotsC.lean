/-
  wots.key, at whatever function value.
-/
import Derived.Test.YtjemfefkgfoikaaDoorWotsB
import Derived.Test.YtjemfefkgfoikaaDoorWotsR
import Derived.Test.YtjemfefkgfoikaaDoorMore
namespace Go.Proofs.YtjemfefkgfoikaaDoor
open Go.RowKit

/-- A function value that yields the digest f k for k, and what it leans on. -/
structure EndEnv (F : FuncId) (caps : Array Value) (f : Nat → List UInt8) (Inv : World → Prop) (B : Nat) : Prop where
  call : ∀ (args : Array Value) (w : World), (callFunc F args).run Tryd.prog w = .ok (.enter F args) w
  step : ∀ (k : Nat) (w : World), k < 68 → Inv w → Calls Tryd.prog F (#[.int .i64 (k : Int)] ++ caps) w fun e w' => e = .returned (.agg ((f k).map u8v).toArray) ∧ Ext w w'
  keep : ∀ w w', Inv w → Chg (fun k => B ≤ k) w w' → Inv w'
  len : ∀ k, (f k).length = 16

set_option maxRecDepth 100000 in
set_option maxHeartbeats 4000000 in
theorem key_any {F : FuncId} {caps : Array Value} {f : Nat → List UInt8} {Inv : World → Prop} {B : Nat} (E : EndEnv F caps f Inv B) (w : World) (hB : B ≤ w.heap.size) (hM : ShaMem w) (hI : Inv w) :
    Calls Tryd.prog 40 #[.func (.func F) #[] caps] w fun e w' => e = .returned (.agg ((keyOf f).map u8v).toArray) ∧ Ext w w' := by
  have HM := hide hM
  have HE := hide E
  have hc := E.call
  have HI0 := hide hI
  have HD := hide (fun (W : World) (A : Option Addr) (c : Nat) (pv : Value) (hE : Ext w W) (h1 : Reads W 1 pv 1 [.slice A (endsS f 68).length c]) (h2 : Reads W 1 (.slice A (endsS f 68).length c) (endsS f 68).length ((endsS f 68).map u8v)) =>
    digest_any 4 [endsS f 68] pv W (hM.ext hE) (Parts.one h1 h2) (by simp) (fun p hp => by have := endsS_length f E.len 68; simp at hp; subst hp; omega))
  have HLE := hide (endsS_length f E.len 68)
  have HK := hide (show digestS 4 [endsS f 68] = keyOf f ∧ (keyOf f).length = 16 from ⟨rfl, digestS_length _ _⟩)
  clear hM hI E
  obtain ⟨key, hkey⟩ : ∃ r, keyOf f = r := ⟨_, rfl⟩
  rw [hkey] at HK ⊢
  clear hkey
  go_enter Tryd.func40, Tryd.ntmps40
  go_wp2_with fail
  go_loopw [3, 6] (fun b i wr => ∃ (k : Nat) (A : Option Addr) (c : Nat), k ≤ 68 ∧ i = .int .i64 k ∧ b = .slice A (16 * k) c ∧ Hid (GB w (w.heap.size + 1) b (16 * k) (endsS f k) wr ∧ Inv wr ∧ Blk wr w.heap.size 23 (Array.replicate 16 (.int .u8 0)))) (fun _ i _ => 68 - (intOf i).toNat)
  case atStart => exact ⟨0, none, 0, by omega, rfl, rfl, hide ⟨GB.nil ((Ext.refl w).alloc _) (by omega) (by simp), (unhide HE).keep _ _ (unhide HI0) ((Ext.refl w).alloc _).chg, Blk.new w _ _⟩⟩
  case round =>
    obtain ⟨k, A, c, hk, rfl, rfl, HI⟩ := hrel
    by_cases hlt : k < 68
    · have HSt := hide ((unhide HE).step k wr hlt (unhide HI).2.1)
      have HEs := hide (endsS_step f k)
      have HL := hide ((unhide HE).len k)
      obtain ⟨d, hd⟩ : ∃ d, f k = d := ⟨_, rfl⟩
      rw [hd] at HSt HEs HL
      clear hd
      go_wp2_with fail
      refine (unhide HSt).mono ?_
      rintro e w1 ⟨rfl, hE1⟩
      have H1 := hide hE1
      clear hE1
      go_wp2_with (first
        | (refine wpList_storeB (ty := 23) (t := 23) (x := .tmp 5) (y := .tmp 11) rfl rfl digest_wide rfl rfl (Blk.new w1 _ _) rfl (by simpa using unhide HL) (bytes_one _) ?_; intro w2 hb2 hc2 hz2; have H2 := hide (And.intro hb2 (made_ext (unhide H1) hc2)); clear hb2 hc2 hz2)
        | (at_builtin; refine wpList_app rfl rfl u8_row rfl ((unhide HI).1.to (unhide H2).2).own rfl (by have := (unhide H2).1.digR (unhide HL); rw [unhide HL] at this; exact this) (AllOne.u8 d) (by omega) ((unhide HI).1.to (unhide H2).2).room ?_; intro A' c' w3 ho hc3 hv; have H3 := hide (And.intro ho hc3); clear ho hc3 hv))
      go_roundw
      case rel =>
        have hst : GB w (w.heap.size + 1) (.slice A' (16 * k + 16) c') (16 * k + 16) (endsS f k ++ d) w3 := (unhide HI).1.step (unhide H2).2 (unhide H3).2 (by have := (unhide H3).1; rw [← List.map_append] at this; exact this)
        have hX : Chg (fun k => B ≤ k) wr w3 := (unhide H2).2.trans' (unhide H3).2 (fun _ _ h => h.elim) (fun i hi e => by have := ((unhide HI).1.own.lt i e).1; omega)
        refine ⟨k + 1, A', c', by omega, by go_num, by congr 1, hide ⟨by rw [unhide HEs]; exact hst, (unhide HE).keep _ _ (unhide HI).2.1 hX, (unhide HI).1.blk (unhide H2).2 (unhide H3).2 (unhide HI).2.2 (by omega)⟩⟩
      case measure => simp [intOf]; omega
    · obtain rfl : k = 68 := by omega
      have HX := hide (show GB w (w.heap.size + 1) (.slice A (endsS f 68).length c) (endsS f 68).length (endsS f 68) wr from by rw [unhide HLE]; exact (unhide HI).1)
      have HZ := hide (unhide HI).2.2
      have e68 : 16 * 68 = (endsS f 68).length := (unhide HLE).symm
      rw [e68]
      clear HI e68
      go_wp2_with (first
        | (go_at_call 26; refine (unhide HD _ A c _ ((unhide HX).ext.alloc _) (Reads.new1 _ _ _) ((unhide HX).reads.ext ((Ext.refl _).alloc _))).mono ?_; rintro e w5 ⟨rfl, hE5⟩; rw [(unhide HK).1]; have H5 := hide (((Ext.refl wr).alloc _).trans hE5); clear hE5)
        | (refine wpList_storeB (ty := 23) (t := 23) (x := .tmp 2) (y := .tmp 18) rfl rfl digest_wide rfl rfl ((unhide HZ).ext (unhide H5)) rfl (by simpa using (unhide HK).2) (bytes_one _) ?_; intro w7 hb7 hc7 hz7; have H7 := hide (And.intro hb7 hc7); clear hb7 hc7 hz7))
      refine bodyPost_ret (v := .agg (key.map u8v).toArray) (results_blk digest_wide rfl (unhide H7).1 (by simpa using (unhide HK).2) rfl) rfl ⟨rfl, ?_⟩
      exact ((unhide HX).ext.trans (unhide H5)).trans' (unhide H7).2 (fun _ _ h => h) (fun i hi e => by omega)

end Go.Proofs.YtjemfefkgfoikaaDoor
