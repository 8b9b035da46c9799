/-
  ratchet.LevelOf and ratchet.RaiseTo carry out step programs, at whatever 'do'.
-/
import Derived.Test.YtmlekdmnpljcoaaRat
import Derived.WalkMore
namespace Go.Proofs.Ytmlekdmnpljcoaa
open Go.RowKit

/-- The leading bits that read as 1, from bit n on; f bits are left. -/
def Prg.up (bank : Int) : Nat → Nat → Prg Nat
  | 0, n => .ret n
  | f + 1, n => (Prg.read bank n).bind fun b => if b then Prg.up bank f (n + 1) else .ret n
/-- Pulses r bits from bit b on. -/
def Prg.down (bank : Int) : Nat → Nat → Prg Unit
  | 0, _ => .ret ()
  | r + 1, b => (Prg.pulses bank b).bind fun _ => Prg.down bank r (b + 1)
def Prg.levelOf (bank : Int) (bits : Nat) : Prg Nat := (Prg.up bank bits 0).bind fun n => (Prg.down bank n 0).bind fun _ => .ret n
def Prg.raiseFrom (bank : Int) : Nat → Nat → Prg (Nat × Int)
  | 0, n => .ret (n, 0)
  | f + 1, n => (Prg.pulses bank n).bind fun _ => (Prg.read bank n).bind fun b => if b then Prg.raiseFrom bank f (n + 1) else .ret (n, 12)
def Prg.raiseTo (bank : Int) (bits target : Nat) : Prg (Nat × Int) := (Prg.levelOf bank bits).bind fun n => Prg.raiseFrom bank (target - n) n
def natV : Nat → Value := fun n => .int .i64 n
def pairV : Nat × Int → Value := fun p => .tuple #[.int .i64 p.1, .int .i64 p.2]

/-- A bound on what a program can end with. -/
theorem Prg.run_inv {α σ ε : Type} {d : Acc → σ → EStateM.Result ε σ Res} (R : α → Prop) {p : Prg α} {s s' : σ} {a : α} (hp : Prg.All R p) (h : p.run d s = .ok a s') : R a := by
  induction p generalizing s with
  | ret b => cases h; exact hp
  | ask b k ih =>
    simp only [Prg.run] at h
    cases hd : d b s with
    | ok r s1 => rw [hd] at h; exact ih r (hp r) h
    | error e s1 => rw [hd] at h; cases h
theorem up_all (bank : Int) : ∀ f n, Prg.All (fun m => m ≤ n + f) (Prg.up bank f n)
  | 0, n => Nat.le_refl _
  | f + 1, n => by
    refine Prg.All.bind (R := fun _ => True) (Prg.All.triv _) (fun b _ => ?_)
    cases b
    · exact (by show n ≤ n + (f + 1); omega)
    · exact (up_all bank f (n + 1)).mono (fun m hm => by omega)
theorem levelOf_le {σ ε : Type} {d : Acc → σ → EStateM.Result ε σ Res} {bank : Int} {bits : Nat} {s s' : σ} {n : Nat} (h : (Prg.levelOf bank bits).run d s = .ok n s') : n ≤ bits := by
  refine Prg.run_inv (fun n => n ≤ bits) ?_ h
  refine Prg.All.bind (R := fun n => n ≤ bits) ((up_all bank bits 0).mono (fun m hm => by omega)) (fun n hn => ?_)
  exact Prg.All.bind (R := fun _ => True) (Prg.All.triv _) (fun _ _ => hn)

section
variable {σ ε : Type} {F : FuncId} {caps : Array Value} {d : Acc → σ → EStateM.Result ε σ Res} {pan : ε → Value} {Inv : σ → (Nat → Prop) → World → Prop} {S : Nat → Prop}

set_option maxHeartbeats 1000000 in
theorem levelOf_do (E : DoEnv Try.prog F caps d pan Inv S) (bank : Int) (bits : Nat) (hb : bits ≤ 1000) (s : σ) (X : Nat → Prop) (w : World) (h : Inv s X w) :
    Calls Try.prog 22 #[.func (.func F) #[] caps, .int .i64 bank, .int .i64 (bits : Int)] w (StepPost Inv S X pan w natV ((Prg.levelOf bank bits).run d s)) := by
  have HE := hide E
  clear E
  have HI := hide h
  clear h
  go_enter Try.func22, Try.ntmps22
  go_wp2
  go_step3
  go_wp2
  go_step3
  go_wp2
  go_loopw [7] (fun i wr => ∃ (k : Nat) (sk : σ), k ≤ bits ∧ i = .int .i64 k ∧ Inv sk X wr ∧ Chg S w wr ∧ (Prg.levelOf bank bits).run d s = ((Prg.up bank (bits - k) k).bind fun n => (Prg.down bank n 0).bind fun _ => .ret n).run d sk) (fun i _ => bits - (intOf i).toNat)
  case atStart => exact ⟨0, s, by omega, rfl, unhide HI, Chg.refl _ _, rfl⟩
  case round =>
    obtain ⟨k, sk, hk, rfl, hinv, hchg, hrun⟩ := hrel
    have HR := hide hrun
    have HC := hide (And.intro hinv hchg)
    clear hrun hinv hchg
    by_cases hlt : k < bits
    · go_wp2_with fail
      refine (read_do (unhide HE) bank k ⟨by omega, by omega⟩ sk X _ (unhide HC).1).mono ?_
      intro e w1 hp
      have hq : (Prg.up bank (bits - k) k) = (Prg.read bank k).bind fun b => if b then Prg.up bank (bits - (k + 1)) (k + 1) else .ret k := by
        rw [show bits - k = (bits - (k + 1)) + 1 from by omega, Prg.up]
      cases hr : (Prg.read bank k).run d sk with
      | ok x s' =>
        obtain ⟨rfl, h1, h2⟩ := hp.of_ok hr
        have HC1 := hide (And.intro h1 ((unhide HC).2.trans h2))
        have HN : Hid ((Prg.levelOf bank bits).run d s = ((if x then Prg.up bank (bits - (k + 1)) (k + 1) else .ret k).bind fun n => (Prg.down bank n 0).bind fun _ => .ret n).run d s') := hide (by rw [unhide HR, hq, Prg.bind_assoc]; exact Prg.run_bind_ok hr)
        clear hq hr h1 h2 hp HC HR
        unfold boolV
        cases x with
        | true =>
          go_wp2
          go_roundw
          case rel => exact ⟨k + 1, s', by omega, by go_num, (unhide HC1).1, (unhide HC1).2, unhide HN⟩
          case measure => simp [intOf]; omega
        | false =>
          go_wp2
          go_loopw [8, 20] (fun _ i wr => ∃ (b : Nat) (sb : σ), b ≤ k ∧ i = .int .i64 b ∧ Inv sb X wr ∧ Chg S w wr ∧ (Prg.levelOf bank bits).run d s = ((Prg.down bank (k - b) b).bind fun _ => .ret k).run d sb) (fun _ i _ => k - (intOf i).toNat)
          case atStart => exact ⟨0, s', by omega, rfl, (unhide HC1).1, (unhide HC1).2, unhide HN⟩
          case round =>
            obtain ⟨b, sb, hbk, rfl, hinv, hchg, hrun⟩ := hrel
            have HR := hide hrun
            have HC := hide (And.intro hinv hchg)
            clear hrun hinv hchg HC1 HN
            by_cases hlb : b < k
            · go_wp2_with fail
              refine (pulses_do (unhide HE) bank b ⟨by omega, by omega⟩ sb X _ (unhide HC).1).mono ?_
              intro e w2 hp
              have hq : (Prg.down bank (k - b) b) = (Prg.pulses bank b).bind fun _ => Prg.down bank (k - (b + 1)) (b + 1) := by
                rw [show k - b = (k - (b + 1)) + 1 from by omega, Prg.down]
              cases hr : (Prg.pulses bank b).run d sb with
              | ok x s2 =>
                obtain ⟨rfl, h1, h2⟩ := hp.of_ok hr
                have HN : Hid ((Prg.levelOf bank bits).run d s = ((Prg.down bank (k - (b + 1)) (b + 1)).bind fun _ => .ret k).run d s2) := hide (by rw [unhide HR, hq, Prg.bind_assoc]; exact Prg.run_bind_ok hr)
                have HC1 := hide (And.intro h1 ((unhide HC).2.trans h2))
                clear hq hr h1 h2 hp HC HR
                unfold unitV
                go_wp2
                go_roundw
                case rel => exact ⟨b + 1, s2, by omega, by go_num, (unhide HC1).1, (unhide HC1).2, unhide HN⟩
                case measure => simp [intOf]; omega
              | error er s2 =>
                obtain ⟨rfl, h1, h2⟩ := hp.of_err hr
                have HN : (Prg.levelOf bank bits).run d s = .error er s2 := by rw [unhide HR, hq, Prg.bind_assoc]; exact Prg.run_bind_error hr
                exact ⟨rfl, StepPost.err HN rfl h1 ((unhide HC).2.trans h2)⟩
            · obtain rfl : b = k := by omega
              go_wp2
              try rw [Exit.noGoto_ret]
              go_ret
              exact StepPost.ok (by rw [unhide HR, Nat.sub_self]; rfl) rfl (unhide HC).1 (unhide HC).2
      | error er s' =>
        obtain ⟨rfl, h1, h2⟩ := hp.of_err hr
        have HN : (Prg.levelOf bank bits).run d s = .error er s' := by rw [unhide HR, hq, Prg.bind_assoc]; exact Prg.run_bind_error hr
        exact ⟨rfl, StepPost.err HN rfl h1 ((unhide HC).2.trans h2)⟩
    · have HC1 := HC
      have HN : Hid ((Prg.levelOf bank bits).run d s = ((Prg.down bank (k - 0) 0).bind fun _ => .ret k).run d sk) := hide (by rw [unhide HR, show bits - k = 0 from by omega]; rfl)
      clear HC HR
      generalize sk = s' at *
      go_wp2
      go_loopw [8, 20] (fun _ i wr => ∃ (b : Nat) (sb : σ), b ≤ k ∧ i = .int .i64 b ∧ Inv sb X wr ∧ Chg S w wr ∧ (Prg.levelOf bank bits).run d s = ((Prg.down bank (k - b) b).bind fun _ => .ret k).run d sb) (fun _ i _ => k - (intOf i).toNat)
      case atStart => exact ⟨0, s', by omega, rfl, (unhide HC1).1, (unhide HC1).2, unhide HN⟩
      case round =>
        obtain ⟨b, sb, hbk, rfl, hinv, hchg, hrun⟩ := hrel
        have HR := hide hrun
        have HC := hide (And.intro hinv hchg)
        clear hrun hinv hchg HC1 HN
        by_cases hlb : b < k
        · go_wp2_with fail
          refine (pulses_do (unhide HE) bank b ⟨by omega, by omega⟩ sb X _ (unhide HC).1).mono ?_
          intro e w2 hp
          have hq : (Prg.down bank (k - b) b) = (Prg.pulses bank b).bind fun _ => Prg.down bank (k - (b + 1)) (b + 1) := by
            rw [show k - b = (k - (b + 1)) + 1 from by omega, Prg.down]
          cases hr : (Prg.pulses bank b).run d sb with
          | ok x s2 =>
            obtain ⟨rfl, h1, h2⟩ := hp.of_ok hr
            have HN : Hid ((Prg.levelOf bank bits).run d s = ((Prg.down bank (k - (b + 1)) (b + 1)).bind fun _ => .ret k).run d s2) := hide (by rw [unhide HR, hq, Prg.bind_assoc]; exact Prg.run_bind_ok hr)
            have HC1 := hide (And.intro h1 ((unhide HC).2.trans h2))
            clear hq hr h1 h2 hp HC HR
            unfold unitV
            go_wp2
            go_roundw
            case rel => exact ⟨b + 1, s2, by omega, by go_num, (unhide HC1).1, (unhide HC1).2, unhide HN⟩
            case measure => simp [intOf]; omega
          | error er s2 =>
            obtain ⟨rfl, h1, h2⟩ := hp.of_err hr
            have HN : (Prg.levelOf bank bits).run d s = .error er s2 := by rw [unhide HR, hq, Prg.bind_assoc]; exact Prg.run_bind_error hr
            exact ⟨rfl, StepPost.err HN rfl h1 ((unhide HC).2.trans h2)⟩
        · obtain rfl : b = k := by omega
          go_wp2
          try rw [Exit.noGoto_ret]
          go_ret
          exact StepPost.ok (by rw [unhide HR, Nat.sub_self]; rfl) rfl (unhide HC).1 (unhide HC).2
set_option maxHeartbeats 1000000 in
theorem raiseTo_do (E : DoEnv Try.prog F caps d pan Inv S) (bank : Int) (bits target : Nat) (hb : bits ≤ 1000) (ht : target ≤ 1000) (s : σ) (X : Nat → Prop) (w : World) (h : Inv s X w) :
    Calls Try.prog 26 #[.func (.func F) #[] caps, .int .i64 bank, .int .i64 (bits : Int), .int .i64 (target : Int)] w (StepPost Inv S X pan w pairV ((Prg.raiseTo bank bits target).run d s)) := by
  have HE := hide E
  clear E
  have HI := hide h
  clear h
  go_enter Try.func26, Try.ntmps26
  go_wp2_with fail
  refine (levelOf_do (unhide HE) bank bits hb s X _ (unhide HI)).mono ?_
  intro e w1 hp
  cases hr : (Prg.levelOf bank bits).run d s with
  | error er s' =>
    obtain ⟨rfl, h1, h2⟩ := hp.of_err hr
    exact ⟨rfl, StepPost.err (Prg.run_bind_error hr) rfl h1 h2⟩
  | ok n s1 =>
    obtain ⟨rfl, h1, h2⟩ := hp.of_ok hr
    have HC1 := hide (And.intro h1 h2)
    have HN : Hid ((Prg.raiseTo bank bits target).run d s = (Prg.raiseFrom bank (target - n) n).run d s1) := hide (Prg.run_bind_ok hr)
    have hn : n ≤ bits := levelOf_le hr
    clear hr h1 h2 hp HI
    unfold natV
    go_wp2
    go_loopw [10] (fun i wr => ∃ (k : Nat) (sk : σ), (k ≤ bits ∨ k ≤ target) ∧ i = .int .i64 k ∧ Inv sk X wr ∧ Chg S w wr ∧ (Prg.raiseTo bank bits target).run d s = (Prg.raiseFrom bank (target - k) k).run d sk) (fun i _ => target - (intOf i).toNat)
    case atStart => exact ⟨n, s1, .inl hn, rfl, (unhide HC1).1, (unhide HC1).2, unhide HN⟩
    case round =>
      obtain ⟨k, sk, hk, rfl, hinv, hchg, hrun⟩ := hrel
      have HR := hide hrun
      have HC := hide (And.intro hinv hchg)
      clear hrun hinv hchg HC1 HN
      by_cases hlt : k < target
      · have hk' : k ≤ 1000 := by omega
        clear hk
        go_wp2_with fail
        refine (pulses_do (unhide HE) bank k ⟨by omega, by omega⟩ sk X _ (unhide HC).1).mono ?_
        intro e w2 hp
        have hq : (Prg.raiseFrom bank (target - k) k) = (Prg.pulses bank k).bind fun _ => (Prg.read bank k).bind fun b => if b then Prg.raiseFrom bank (target - (k + 1)) (k + 1) else .ret (k, 12) := by
          rw [show target - k = (target - (k + 1)) + 1 from by omega, Prg.raiseFrom]
        cases hr : (Prg.pulses bank k).run d sk with
        | error er s2 =>
          obtain ⟨rfl, h1, h2⟩ := hp.of_err hr
          have HN : (Prg.raiseTo bank bits target).run d s = .error er s2 := by rw [unhide HR, hq]; exact Prg.run_bind_error hr
          exact ⟨rfl, StepPost.err HN rfl h1 ((unhide HC).2.trans h2)⟩
        | ok x s2 =>
          obtain ⟨rfl, h1, h2⟩ := hp.of_ok hr
          have HN : Hid ((Prg.raiseTo bank bits target).run d s = ((Prg.read bank k).bind fun b => if b then Prg.raiseFrom bank (target - (k + 1)) (k + 1) else .ret (k, 12)).run d s2) := hide (by rw [unhide HR, hq]; exact Prg.run_bind_ok hr)
          have HC1 := hide (And.intro h1 ((unhide HC).2.trans h2))
          clear hq hr h1 h2 hp HC HR
          unfold unitV
          go_wp2_with fail
          refine (read_do (unhide HE) bank k ⟨by omega, by omega⟩ s2 X _ (unhide HC1).1).mono ?_
          intro e w3 hp
          cases hr : (Prg.read bank k).run d s2 with
          | error er s3 =>
            obtain ⟨rfl, h1, h2⟩ := hp.of_err hr
            have HM : (Prg.raiseTo bank bits target).run d s = .error er s3 := by rw [unhide HN]; exact Prg.run_bind_error hr
            exact ⟨rfl, StepPost.err HM rfl h1 ((unhide HC1).2.trans h2)⟩
          | ok x s3 =>
            obtain ⟨rfl, h1, h2⟩ := hp.of_ok hr
            have HM : Hid ((Prg.raiseTo bank bits target).run d s = (if x then Prg.raiseFrom bank (target - (k + 1)) (k + 1) else .ret (k, 12)).run d s3) := hide (by rw [unhide HN]; exact Prg.run_bind_ok hr)
            have HC2 := hide (And.intro h1 ((unhide HC1).2.trans h2))
            clear hr h1 h2 hp HC1 HN
            unfold boolV
            cases x with
            | true =>
              go_wp2
              go_roundw
              case rel => exact ⟨k + 1, s3, .inr (by omega), by go_num, (unhide HC2).1, (unhide HC2).2, unhide HM⟩
              case measure => simp [intOf]; omega
            | false =>
              go_wp2
              go_ret2
              exact StepPost.ok (a := (k, 12)) (unhide HM) rfl (unhide HC2).1 (unhide HC2).2
      · clear hk
        go_wp2
        go_ret2
        exact StepPost.ok (a := (k, 0)) (by rw [unhide HR, show target - k = 0 from by omega]; rfl) rfl (unhide HC).1 (unhide HC).2
end

end Go.Proofs.Ytmlekdmnpljcoaa
