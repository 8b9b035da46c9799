/-
  Several texts in one file: each has its own heading below.
-/
import Derived.Test.YtplkplegjoabgaaGreatDoorHzN


namespace Go.Proofs.YtplkplegjoabgaaGreatDoor
open Go.RowKit
structure Snd (c : List Int) : Prop where
  val : Val c
  len : c.length = 48
  st : ∀ b, b < 16 → stuckC c b ≤ 1
theorem Snd.evo {c c' : List Int} (h : Snd c) (e : Evo c c') : Snd c' := ⟨h.val.evo e, e.len.trans h.len, fun b hb => by rw [e.stuck]; exact h.st b hb⟩
theorem levelUp_ge8 (c : List Int) (nz : Bool) : ∀ f n, n ≤ levelUp c nz f n
  | 0, n => Nat.le_refl _
  | f + 1, n => by
    unfold levelUp
    split
    · exact Nat.le_trans (Nat.le_succ n) (levelUp_ge8 c nz f (n + 1))
    · exact Nat.le_refl _
theorem levelUp_evo {c c' : List Int} (e : Evo c c') : ∀ f n, levelUp c false f n ≤ levelUp c' false f n
  | 0, n => Nat.le_refl _
  | f + 1, n => by
    by_cases h : bitOne c false n = true
    · have h' := e.low h
      simp only [levelUp, h, h', if_true]
      exact levelUp_evo e f (n + 1)
    · have : levelUp c false (f + 1) n = n := by simp only [levelUp]; rw [if_neg h]
      rw [this]
      exact levelUp_ge8 c' false (f + 1) n
theorem levelUp_of {c : List Int} {t : Nat} : ∀ f n, (∀ b, n ≤ b → b < t → bitOne c false b = true) → t ≤ n + f → t ≤ levelUp c false f n
  | 0, n, _, h => h
  | f + 1, n, hb, h => by
    by_cases hn : n < t
    · simp only [levelUp, hb n (Nat.le_refl _) hn, if_true]
      exact levelUp_of f (n + 1) (fun b h1 h2 => hb b (by omega) h2) (by omega)
    · exact Nat.le_trans (by omega) (levelUp_ge8 c false (f + 1) n)
theorem TriC.at_ {α : Type} {F : List Int} {pre : List Int → Prop} {p : Prg α} {post : α → List Int → Prop} {cut : List Int → Prop} (h : ∀ c0, pre c0 → TriC F (fun c => c = c0) p post cut) : TriC F pre p post cut := fun c i hc => h c hc c i rfl
theorem lev_low {c0 c : List Int} {m : Nat} (hs : Snd c0) (h : LevP c0 16 m m c) : ∀ b, b < m → bitOne c false b = true := fun b hb =>
  blown_low h.blown hs.val (Nat.zero_le _) hb (by rw [hs.len]; have := h.le; omega) (.inl (h.high b hb))
theorem tri_raiseTo (F : List Int) (c0 : List Int) (hs : Snd c0) (t : Nat) (ht : t ≤ 16) :
    TriC F (fun c => c = c0) (Prg.raiseTo 2 16 t) (fun p c => Evo c0 c ∧ p.2 = 0 ∧ t ≤ levelUp c false 16 0) (fun c => Evo c0 c) := by
  unfold Prg.raiseTo
  refine TriC.bind (mid := fun m c => LevP c0 16 m m c) ((tri_levelOf F c0 16).mono (fun _ h => h) (fun _ _ h => h) fun c h => ?_) fun m => TriC.at_ fun c1 h1 => ?_
  · obtain ⟨m, h | h⟩ := h
    · exact h.blown.evo
    · rw [h.1]; exact Evo.refl _
  · have e1 := h1.blown.evo
    have hs1 := hs.evo e1
    have hl := lev_low hs h1
    have hm := h1.le
    refine (tri_raiseFrom F (t - m) m c1 hs1.val (by rw [hs1.len]; omega)).mono (fun _ h => h) (fun p c h => ?_) fun c h => e1.trans h.1
    refine ⟨e1.trans h.evo, ?_, ?_⟩
    · rcases h.ok with ⟨h2, _⟩ | ⟨_, h3, h4⟩
      · exact h2
      · have := hs1.st p.1 (by omega)
        omega
    · rcases h.ok with ⟨_, h2⟩ | ⟨_, h3, h4⟩
      · refine levelUp_of 16 0 (fun b _ hb => ?_) (by omega)
        by_cases hbm : b < m
        · exact h.evo.low (hl b hbm)
        · exact h.low b (by omega) (by omega)
      · have := hs1.st p.1 (by omega)
        omega
structure SgnP (h : Nat) (c0 : List Int) (p : Nat × Int) (c : List Int) : Prop where
  evo : Evo c0 c
  ge : levelUp c0 false 16 0 ≤ p.1
  end_ : 2 ^ h ≤ p.1 ∧ p.2 = 17 ∨ p.1 < 2 ^ h ∧ p.2 = 0 ∧ p.1 + 1 ≤ levelUp c false 16 0
theorem tri_sign (F : List Int) (c0 : List Int) (hs : Snd c0) (h : Nat) (hh : h ≤ 4) : TriC F (fun c => c = c0) (Prg.sign h) (fun p c => SgnP h c0 p c) (fun c => Evo c0 c) := by
  unfold Prg.sign
  have h16 : 2 ^ h ≤ 2 ^ 4 := Nat.pow_le_pow_right (by omega) hh
  refine TriC.bind (mid := fun m c => LevP c0 16 m m c) ((tri_levelOf F c0 16).mono (fun _ h => h) (fun _ _ h => h) fun c h => ?_) fun n => TriC.at_ fun c1 h1 => ?_
  · obtain ⟨m, h | h⟩ := h
    · exact h.blown.evo
    · rw [h.1]; exact Evo.refl _
  · have e1 := h1.blown.evo
    have hs1 := hs.evo e1
    have hb := (lev_between (bits := 16) hs.len h1.le h1.high h1.low).1
    rw [level_bits c0 false 16 hs.len] at hb
    by_cases hg : 2 ^ h ≤ n
    · rw [if_pos hg]
      exact TriC.ret fun c hc => by subst hc; exact ⟨e1, hb, .inl ⟨hg, rfl⟩⟩
    · rw [if_neg hg]
      refine TriC.bind (mid := fun p c => Evo c0 c ∧ p.2 = 0 ∧ n + 1 ≤ levelUp c false 16 0) ((tri_raiseTo F c1 hs1 (n + 1) (by omega)).mono (fun _ h => h) (fun p c h => ⟨e1.trans h.1, h.2⟩) fun c h => e1.trans h) fun p => TriC.ret fun c hc => ⟨hc.1, hb, .inr ⟨by omega, hc.2.1, hc.2.2⟩⟩
theorem exec_le8 {α : Type} (F : List Int) (p : Prg α) : ∀ c i, i ≤ (exec F p c i).2.2 := by
  induction p with
  | ret a => intro c i; exact Nat.le_refl _
  | ask a k ih =>
    intro c i
    simp only [exec]
    split
    · exact Nat.le_succ i
    · exact Nat.le_trans (Nat.le_succ i) (ih _ _ _)
theorem exec_done {α : Type} {F : List Int} (hF : ∀ j, (faultAt F j).1 = false) (p : Prg α) : ∀ c i, ∃ a c' k, exec F p c i = (some a, c', k) := by
  induction p with
  | ret a => intro c i; exact ⟨a, c, i, rfl⟩
  | ask a k ih =>
    intro c i
    simp only [exec]
    rw [if_neg (by rw [hF i]; exact Bool.false_ne_true)]
    exact ih _ _ _
theorem exec_all {α : Type} {F : List Int} {R : α → Prop} {p : Prg α} (h : Prg.All R p) : ∀ {c i a c' k}, exec F p c i = (some a, c', k) → R a := by
  induction p with
  | ret a => intro c i b c' k he; cases he; exact h
  | ask a kk ih =>
    intro c i b c' k he
    simp only [exec] at he
    split at he
    · cases he
    · exact ih _ (h _) he
theorem exec_cut {α : Type} {F : List Int} {N : Nat} (hF : ∀ j, faultAt F j = (decide (j = N), false)) (p : Prg α) : ∀ c i, i ≤ N → ∀ a c' k, exec [] p c i = (some a, c', k) → (k ≤ N → exec F p c i = (some a, c', k)) ∧ (N < k → (exec F p c i).1 = none) := by
  induction p with
  | ret a =>
    intro c i hi b c' k h
    cases h
    exact ⟨fun _ => rfl, fun h => absurd h (by omega)⟩
  | ask a kk ih =>
    intro c i hi b c' k h
    have h0 : faultAt [] i = (false, false) := rfl
    simp only [exec, h0, Bool.false_eq_true, if_false] at h
    have hle := exec_le8 [] (kk ⟨aftV a (false, false) c, noBytes⟩) (aftC a (false, false) c) (i + 1)
    rw [h] at hle
    dsimp only at hle
    by_cases hN : i = N
    · subst hN
      simp only [exec, hF i, decide_true, if_true]
      exact ⟨fun hk => absurd hk (by omega), fun _ => trivial⟩
    · simp only [exec, hF i, decide_eq_false hN, Bool.false_eq_true, if_false]
      exact ih _ _ _ (by omega) _ _ _ h
end Go.Proofs.YtplkplegjoabgaaGreatDoor
namespace Go.Proofs.YtplkplegjoabgaaGreatDoor.Pv
open Go.RowKit
theorem signI_nat (h : Nat) (hh : h ≤ 4) : Prg.signI (h : Int) = Prg.sign h := by
  unfold Prg.signI
  rw [if_pos ⟨by omega, by omega⟩, Int.toNat_natCast]
theorem run_whole (seed m : List UInt8) (h : Nat) (hh : h ≤ 4) (F : List UInt8) (c : List Int) (hs : Snd c) (hF : ∀ j, (faultAt (intB F) j).1 = false) :
    ∃ p c' k, runS seed m h F c = ⟨c', sgO seed h m p, true, k⟩ ∧ exec (intB F) (Prg.sign h) c 0 = (some p, c', k) ∧ SgnP h c p c' := by
  obtain ⟨p, c', k, he⟩ := exec_done hF (Prg.sign h) c 0
  have ht := tri_sign (intB F) c hs h hh c 0 rfl
  rw [he] at ht
  exact ⟨p, c', k, by unfold runS; rw [signI_nat h hh, he]; rfl, he, ht⟩
theorem sgO_end {seed m : List UInt8} {h : Nat} {c c' : List Int} {p : Nat × Int} (hh : h ≤ 4) (hp : SgnP h c p c') :
    (p.2 = 17 ∧ sgO seed h m p = (⟨0, [], []⟩, 17)) ∨ (p.2 = 0 ∧ p.1 < 2 ^ h ∧ sgO seed h m p = sgnT seed h p.1 m ∧ (sgO seed h m p).2 = 0 ∧ (sgO seed h m p).1.index = (p.1 : Int)) := by
  rcases hp.end_ with ⟨_, h2⟩ | ⟨h1, h2, _⟩
  · refine .inl ⟨h2, ?_⟩
    unfold sgO
    rw [if_neg (by omega), h2]
  · have e : sgO seed h m p = sgnT seed h p.1 m := by
      unfold sgO
      rw [if_pos h2]
    refine .inr ⟨h2, h1, e, ?_⟩
    rw [e, sgnT_yes seed m h p.1 hh h1]
    exact ⟨rfl, rfl⟩
theorem sign_lev0 {h : Nat} {c c' : List Int} {p : Nat × Int} {k i : Nat} (he : exec [] (Prg.sign h) c i = (some p, c', k)) : p.1 = levelUp c false 16 0 := by
  obtain ⟨c1, h1⟩ := exec_levelOf0 c 16 i
  unfold Prg.sign at he
  rw [exec_bind_some h1] at he
  by_cases hg : 2 ^ h ≤ levelUp c false 16 0
  · rw [if_pos hg] at he
    cases he
    rfl
  · rw [if_neg hg] at he
    have hall : Prg.All (fun q : Nat × Int => q.1 = levelUp c false 16 0) ((Prg.raiseTo 2 16 (levelUp c false 16 0 + 1)).bind fun p => .ret (levelUp c false 16 0, p.2)) := (Prg.All.triv _).bind fun _ _ => rfl
    exact exec_all hall he
theorem raises_plain (seed m : List UInt8) (h : Nat) (hh : h ≤ 4) (c : List Int) (hs : Snd c) (N : Nat) (F : List UInt8) (hF : ∀ j, faultAt (intB F) j = (decide (j = N), false)) (r1 rx r2 : RunO) (h1 : runS seed m h [] c = r1) (hx : runS seed m h F c = rx) (h2 : runS seed m h [] rx.cells = r2) :
    r1.done = true ∧ rx.done = decide (r1.many < N + 1) ∧ (rx.done = true → rx.out = r1.out) ∧ rx.cells.length = 48 ∧ r2.done = true ∧ (r2.out.2 = 17 ∨ r2.out.2 = 0 ∧ r1.out.1.index ≤ r2.out.1.index) := by
  have hn : ∀ j, (faultAt (intB []) j).1 = false := fun j => rfl
  obtain ⟨p, c', k, e1, e2, e3⟩ := run_whole seed m h hh [] c hs hn
  rw [e1] at h1
  subst h1
  have hcut := exec_cut hF (Prg.sign h) c 0 (Nat.zero_le _) p c' k e2
  have ht := tri_sign (intB F) c hs h hh c 0 rfl
  have key : Evo c rx.cells ∧ rx.done = decide (k < N + 1) ∧ (rx.done = true → rx.out = sgO seed h m p) := by
    rw [← hx]
    unfold runS
    rw [signI_nat h hh]
    by_cases hk : k ≤ N
    · rw [hcut.1 hk]
      exact ⟨e3.evo, (decide_eq_true (by omega)).symm, fun _ => rfl⟩
    · have hq := hcut.2 (by omega)
      generalize exec (intB F) (Prg.sign h) c 0 = q at hq ht
      obtain ⟨q1, q2, q3⟩ := q
      dsimp only at hq
      subst hq
      exact ⟨ht, (decide_eq_false (by omega)).symm, fun hb => by cases hb⟩
  obtain ⟨k1, k2, k3⟩ := key
  have hsx := hs.evo k1
  obtain ⟨p', c2, k', f1, f2, f3⟩ := run_whole seed m h hh [] rx.cells hsx hn
  rw [f1] at h2
  subst h2
  refine ⟨rfl, k2, k3, hsx.len, rfl, ?_⟩
  rcases sgO_end (seed := seed) (m := m) hh f3 with ⟨_, g⟩ | ⟨_, _, _, g, gi⟩
  · exact .inl (congrArg (·.2) g)
  · refine .inr ⟨g, ?_⟩
    have hlev : levelUp c false 16 0 ≤ p'.1 := Nat.le_trans (levelUp_evo k1 16 0) f3.ge
    dsimp only
    rw [gi]
    rcases sgO_end (seed := seed) (m := m) hh e3 with ⟨_, g⟩ | ⟨_, _, _, _, gj⟩
    · rw [g]
      exact Int.natCast_nonneg _
    · rw [gj]
      have := sign_lev0 e2
      have := f3.ge
      have := levelUp_evo k1 16 0
      omega
end Go.Proofs.YtplkplegjoabgaaGreatDoor.Pv
