/-
  ratchet: majority, read, pulse, LevelOf, RaiseTo carry out step programs, at whatever 'do'.
-/
import Derived.Test.YtmlekdmnpljcoaaPlay
namespace Go.Proofs.Ytmlekdmnpljcoaa
open Go.RowKit

def nonzero (l : List Int) : Nat := (l.filter (fun n => n != 0)).length
theorem nonzero_le (l : List Int) : nonzero l ≤ l.length := List.length_filter_le _ _
theorem nonzero_snoc (l : List Int) (x : Int) : nonzero (l ++ [x]) = nonzero l + if x = 0 then 0 else 1 := by
  unfold nonzero
  by_cases h : x = 0 <;> simp [List.filter_append, h]
theorem take_step {α : Type} (l : List α) (k : Nat) (h : k < l.length) : l.take (k + 1) = l.take k ++ [l[k]] := by rw [List.take_add_one, List.getElem?_eq_getElem h]; rfl
theorem nonzero_take (l : List Int) (k : Nat) (h : k < l.length) : nonzero (l.take (k + 1)) = nonzero (l.take k) + if l[k] = 0 then 0 else 1 := by rw [take_step l k h, nonzero_snoc]
def majorityB (l : List Int) : Bool := decide (l.length < 2 * nonzero l)

set_option maxHeartbeats 400000 in
theorem majority_any (l : List Int) (v : Value) (w : World) (h : Reads w 1 v l.length (l.map (Value.int .i64))) (hl : l.length ≤ 1000) :
    Calls Try.prog 44 #[v] w fun e w' => e = .returned (.bool (majorityB l)) ∧ w = w' := by
  have HH := hide h
  obtain ⟨_, B, c, rfl, hnc, hcm, _⟩ := h
  clear hnc hcm
  go_enter Try.func44, Try.ntmps44
  go_wp2
  go_loop [3, 8] (fun n i => ∃ k : Nat, k ≤ l.length ∧ i = .int .i64 k ∧ n = .int .i64 (nonzero (l.take k))) (fun _ i => l.length - (intOf i).toNat)
  case atStart => exact ⟨0, Nat.zero_le _, rfl, rfl⟩
  case round =>
    obtain ⟨k, hk, rfl, rfl⟩ := hrel
    have hnz := nonzero_le (l.take k)
    rw [List.length_take] at hnz
    by_cases hlt : k < l.length
    · obtain ⟨b, o, c', u, hv, _, _, hb, hu, hc1⟩ := (unhide HH).at1 hlt
      cases hv
      rw [List.getElem?_map, List.getElem?_eq_getElem hlt] at hu
      cases hu
      have HS := hide (nonzero_take l k hlt)
      generalize l[k] = x at *
      by_cases hx : x = 0
      · have hx' : (x != 0) = false := by simp [hx]
        have hx2 : (x == 0) = true := by simp [hx]
        have HX := hide hx
        clear hx
        go_wp2
        go_round
        case rel => exact ⟨k + 1, by omega, by go_num, int_eq (by rw [unhide HS, if_pos (unhide HX)]; rfl)⟩
        case measure => simp [intOf]; omega
      · have hx' : (x != 0) = true := by simp [hx]
        have hx2 : (x == 0) = false := by simp [hx]
        have HX := hide hx
        clear hx
        go_wp2
        go_round
        case rel => exact ⟨k + 1, by omega, by go_num, int_eq (by rw [unhide HS, if_neg (unhide HX)]; rfl)⟩
        case measure => simp [intOf]; omega
    · go_wp2
      go_ret
      exact ⟨ret_bool (by rw [show k = l.length from by omega, List.take_length]; unfold majorityB; exact decide_eq_decide.2 (by omega)), rfl⟩

/-- Reading a logical bit; pulsing its cells. -/
def Prg.read (bank bit : Int) : Prg Bool :=
  (Prg.fuse bank (3 * bit + 0)).bind fun a => (Prg.fuse bank (3 * bit + 1)).bind fun b => (Prg.fuse bank (3 * bit + 2)).bind fun c => .ret (majorityB [a, b, c])
def Prg.pulses (bank bit : Int) : Prg Unit :=
  (Prg.pulse bank (3 * bit + 0)).bind fun _ => (Prg.pulse bank (3 * bit + 1)).bind fun _ => (Prg.pulse bank (3 * bit + 2)).bind fun _ => .ret ()
/-- What is left of them behind k accesses. -/
def Prg.readFrom (bank bit : Int) : Nat → List Int → Prg Bool
  | 0, l => .ret (majorityB l)
  | n + 1, l => (Prg.fuse bank (3 * bit + ((2 - n : Nat) : Int))).bind fun x => Prg.readFrom bank bit n (l ++ [x])
def Prg.pulseFrom (bank bit : Int) : Nat → Prg Unit
  | 0 => .ret ()
  | n + 1 => (Prg.pulse bank (3 * bit + ((2 - n : Nat) : Int))).bind fun _ => Prg.pulseFrom bank bit n
theorem Prg.read_eq (bank bit : Int) : Prg.read bank bit = Prg.readFrom bank bit 3 [] := rfl
theorem Prg.pulses_eq (bank bit : Int) : Prg.pulses bank bit = Prg.pulseFrom bank bit 3 := rfl

section
variable {σ ε : Type} {F : FuncId} {caps : Array Value} {d : Acc → σ → EStateM.Result ε σ Res} {pan : ε → Value} {Inv : σ → (Nat → Prop) → World → Prop} {S : Nat → Prop}

set_option maxHeartbeats 400000 in
theorem pulses_do (E : DoEnv Try.prog F caps d pan Inv S) (bank bit : Int) (hb : 0 ≤ bit ∧ bit ≤ 100000) (s : σ) (X : Nat → Prop) (w : World) (h : Inv s X w) :
    Calls Try.prog 35 #[.func (.func F) #[] caps, .int .i64 bank, .int .i64 bit] w (StepPost Inv S X pan w unitV ((Prg.pulses bank bit).run d s)) := by
  have HE := hide E
  clear E
  have HI := hide h
  clear h
  go_enter Try.func35, Try.ntmps35
  go_wp2
  go_loopw [7] (fun i wr => ∃ (k : Nat) (sk : σ), k ≤ 3 ∧ i = .int .i64 k ∧ Inv sk X wr ∧ Chg S w wr ∧ (Prg.pulses bank bit).run d s = (Prg.pulseFrom bank bit (3 - k)).run d sk) (fun i _ => 3 - (intOf i).toNat)
  case atStart => exact ⟨0, s, by omega, rfl, unhide HI, Chg.refl _ _, rfl⟩
  case round =>
    obtain ⟨k, sk, hk, rfl, hinv, hchg, hrun⟩ := hrel
    have HR := hide hrun
    have HC := hide (And.intro hinv hchg)
    clear hrun hinv hchg
    by_cases hlt : k < 3
    · go_wp2_with fail
      refine (pulse_do (unhide HE) _ _ sk X _ (unhide HC).1).mono ?_
      intro e w1 hp
      have hq : Prg.pulseFrom bank bit (3 - k) = (Prg.pulse bank (3 * bit + (k : Int))).bind fun _ => Prg.pulseFrom bank bit (3 - (k + 1)) := by
        rw [show 3 - k = (2 - k) + 1 from by omega, Prg.pulseFrom, show 2 - (2 - k) = k from by omega, show 3 - (k + 1) = 2 - k from by omega]
      cases hr : (Prg.pulse bank (3 * bit + (k : Int))).run d sk with
      | ok u s' =>
        obtain ⟨rfl, h1, h2⟩ := hp.of_ok hr
        have HN : Hid ((Prg.pulses bank bit).run d s = (Prg.pulseFrom bank bit (3 - (k + 1))).run d s') := hide (by rw [unhide HR, hq]; exact Prg.run_bind_ok hr)
        have HC1 := hide (And.intro h1 ((unhide HC).2.trans h2))
        clear hq hr h1 h2 hp HC HR
        go_wp2
        go_roundw
        case rel => exact ⟨k + 1, s', by omega, by go_num, (unhide HC1).1, (unhide HC1).2, unhide HN⟩
        case measure => simp [intOf]; omega
      | error er s' =>
        obtain ⟨rfl, h1, h2⟩ := hp.of_err hr
        have HN : (Prg.pulses bank bit).run d s = .error er s' := by rw [unhide HR, hq]; exact Prg.run_bind_error hr
        exact ⟨rfl, StepPost.err HN rfl h1 ((unhide HC).2.trans h2)⟩
    · obtain rfl : k = 3 := by omega
      go_wp2
      go_end0
      exact StepPost.ok (unhide HR) rfl (unhide HC).1 (unhide HC).2
theorem int_row : SlTy Try.prog 96 3 1 8 := SlTy.mk' (z := .int .i64 0) (by kernel_rfl) (by kernel_rfl) rfl (by omega) (by omega)

set_option maxHeartbeats 400000 in
theorem read_do (E : DoEnv Try.prog F caps d pan Inv S) (bank bit : Int) (hb : 0 ≤ bit ∧ bit ≤ 100000) (s : σ) (X : Nat → Prop) (w : World) (h : Inv s X w) :
    Calls Try.prog 34 #[.func (.func F) #[] caps, .int .i64 bank, .int .i64 bit] w (StepPost Inv S X pan w boolV ((Prg.read bank bit).run d s)) := by
  have HE := hide E
  clear E
  have HI := hide h
  clear h
  go_enter Try.func34, Try.ntmps34
  go_wp2
  go_loopw [7, 9] (fun v i wr => ∃ (k : Nat) (sk : σ) (l : List Int), k ≤ 3 ∧ i = .int .i64 k ∧ l.length = k ∧ Mine Inv X w.heap.size 3 1 sk v k (l.map (Value.int .i64)) wr ∧ Chg S w wr ∧ (Prg.read bank bit).run d s = (Prg.readFrom bank bit (3 - k) l).run d sk) (fun _ i _ => 3 - (intOf i).toNat)
  case atStart => exact ⟨0, s, [], by omega, rfl, rfl, Mine.nil (unhide HI), Chg.refl _ _, rfl⟩
  case round =>
    obtain ⟨k, sk, l, hk, rfl, hl, hinv, hchg, hrun⟩ := hrel
    have HR := hide hrun
    have HL := hide hl
    have HC := hide (And.intro hinv hchg)
    clear hrun hinv hchg hl
    by_cases hlt : k < 3
    · go_wp2_with fail
      refine ((unhide HC).1.step (unhide HE) (fun Y hY => fuse_do (unhide HE) _ _ sk Y _ hY)).mono ?_
      intro e w1 hp
      have hq : Prg.readFrom bank bit (3 - k) l = (Prg.fuse bank (3 * bit + (k : Int))).bind fun x => Prg.readFrom bank bit (3 - (k + 1)) (l ++ [x]) := by
        rw [show 3 - k = (2 - k) + 1 from by omega, Prg.readFrom, show 2 - (2 - k) = k from by omega, show 3 - (k + 1) = 2 - k from by omega]
      cases hr : (Prg.fuse bank (3 * bit + (k : Int))).run d sk with
      | ok x s' =>
        obtain ⟨rfl, h1, h2⟩ := hp.of_ok hr
        have HN : Hid ((Prg.read bank bit).run d s = (Prg.readFrom bank bit (3 - (k + 1)) (l ++ [x])).run d s') := hide (by rw [unhide HR, hq]; exact Prg.run_bind_ok hr)
        have hsz : Hid (w.heap.size ≤ w1.heap.size) := hide ((unhide HC).2.trans h2).size
        have HC1 := hide (And.intro h1 ((unhide HC).2.trans h2))
        clear hq hr h1 h2 hp HC HR
        unfold intV
        go_wp2_with (at_builtin; refine wpList_app rfl rfl int_row rfl (ownsRow_ext (unhide HC1).1.own ((Ext.refl _).alloc _)) rfl (Reads.new1 _ _ _) (AllOne.one rfl) (by omega) (Nat.le_trans (unhide hsz) (by simp)) ?_; intro A' c' w2 ho hc hv)
        have hm := ((unhide HC1).1.ext (unhide HE) ((Ext.refl _).alloc _)).app (unhide HE) ho hc hv
        have HC2 := hide (And.intro hm (((unhide HC1).2.alloc _).trans' hc (fun _ _ h => h) (fun i hi hi' => absurd ((unhide HC1).1.own.lt i hi').1 (by omega))))
        clear ho hc hv hm
        go_wp2
        go_roundw
        case rel => exact ⟨k + 1, s', l ++ [x], by omega, by go_num, by simp [unhide HL], by simpa using (unhide HC2).1, (unhide HC2).2, unhide HN⟩
        case measure => simp [intOf]; omega
      | error er s' =>
        obtain ⟨rfl, h1, h2⟩ := hp.of_err hr
        have HN : (Prg.read bank bit).run d s = .error er s' := by rw [unhide HR, hq]; exact Prg.run_bind_error hr
        exact ⟨rfl, StepPost.err HN rfl (h1.inv (unhide HE)) ((unhide HC).2.trans h2)⟩
    · obtain rfl : k = 3 := by omega
      have hrd := Reads.of_own (unhide HC).1.own
      rw [← unhide HL] at hrd
      have HRD := hide hrd
      clear hrd
      go_wp2_with fail
      refine (majority_any l _ _ (unhide HRD) (by rw [unhide HL]; omega)).mono ?_
      rintro e w1 ⟨rfl, rfl⟩
      go_wp2
      go_ret
      exact StepPost.ok (unhide HR) rfl ((unhide HC).1.inv (unhide HE)) (unhide HC).2
end

end Go.Proofs.Ytmlekdmnpljcoaa
