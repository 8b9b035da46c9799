/-
  What a session leaves behind, whatever the faults: plain Lean.
-/
import Derived.Test.YtmlekdmnpljcoaaRatPlain
namespace Go.Proofs.Ytmlekdmnpljcoaa
open Go.RowKit

/-- From cells that meet 'pre' the program ends in 'post', or is cut in 'cut'. -/
def Tri {α : Type} (F : List Int) (pre : List Int → Prop) (p : Prg α) (post : α → List Int → Prop) (cut : List Int → Prop) : Prop :=
  ∀ c i, pre c → match exec F p c i with | (some a, c', _) => post a c' | (none, c', _) => cut c'
section
variable {α β : Type} {F : List Int} {pre : List Int → Prop} {cut : List Int → Prop}
theorem Tri.ret {a : α} {post : α → List Int → Prop} (h : ∀ c, pre c → post a c) : Tri F pre (.ret a) post cut := fun c _ hc => h c hc
theorem Tri.bind {p : Prg α} {f : α → Prg β} {mid : α → List Int → Prop} {post : β → List Int → Prop} (h : Tri F pre p mid cut) (hf : ∀ a, Tri F (mid a) (f a) post cut) : Tri F pre (p.bind f) post cut := fun c i hc => by
  rw [exec_bind]
  have h1 := h c i hc
  split at h1 <;> rename_i hx <;> rw [hx]
  · exact hf _ _ _ h1
  · exact h1
theorem Tri.mono {p : Prg α} {pre' : List Int → Prop} {post post' : α → List Int → Prop} {cut' : List Int → Prop} (h : Tri F pre p post cut) (h1 : ∀ c, pre' c → pre c) (h2 : ∀ a c, post a c → post' a c) (h3 : ∀ c, cut c → cut' c) : Tri F pre' p post' cut' := fun c i hc => by
  have := h c i (h1 c hc)
  generalize exec F p c i = r at this ⊢
  obtain ⟨a, c', i'⟩ := r
  cases a with
  | some a => exact h2 _ _ this
  | none => exact h3 _ this
theorem Tri.fuse {post : Int → List Int → Prop} (j : Nat) (x : Int) (hx : x = (j : Int)) (h : ∀ c nz, pre c → post (fuseBit (cell c j) nz) c) (hcut : ∀ c, pre c → cut c) : Tri F pre (Prg.fuse 0 x) post cut := fun c i hc => by
  subst hx
  unfold Prg.fuse exec
  by_cases hf : (faultAt F i).1 = true
  · rw [if_pos hf]
    exact hcut c hc
  · rw [if_neg hf]
    exact h c (faultAt F i).2 hc
theorem Tri.pulse {post : Unit → List Int → Prop} (j : Nat) (x : Int) (hx : x = (j : Int)) (h : ∀ c, pre c → post () (c.set j (pulsed (cell c j) false))) (hcut : ∀ c, pre c → cut (c.set j (pulsed (cell c j) true))) : Tri F pre (Prg.pulse 0 x) post cut := fun c i hc => by
  subst hx
  unfold Prg.pulse exec
  by_cases hf : (faultAt F i).1 = true
  · rw [if_pos hf]
    show cut (c.set j (pulsed (c.getD j 0) (faultAt F i).1))
    rw [hf]
    exact hcut c hc
  · rw [if_neg hf]
    show post () (c.set j (pulsed (c.getD j 0) (faultAt F i).1))
    rw [Bool.eq_false_iff.2 hf]
    exact h c hc
end

theorem majority3 (a b c : Int) (ha : 0 ≤ a ∧ a ≤ 1) (hb : 0 ≤ b ∧ b ≤ 1) (hc : 0 ≤ c ∧ c ≤ 1) : majorityB [a, b, c] = decide (2 ≤ a + b + c) := by
  obtain ⟨a1, a2⟩ := ha
  obtain ⟨b1, b2⟩ := hb
  obtain ⟨c1, c2⟩ := hc
  have hA : a = 0 ∨ a = 1 := by omega
  have hB : b = 0 ∨ b = 1 := by omega
  have hC : c = 0 ∨ c = 1 := by omega
  rcases hA with rfl | rfl <;> rcases hB with rfl | rfl <;> rcases hC with rfl | rfl <;> decide
theorem fuseBit_between (x : Int) (nz : Bool) : fuseBit x false ≤ fuseBit x nz ∧ fuseBit x nz ≤ fuseBit x true := by
  unfold fuseBit
  cases nz <;> by_cases h1 : x = 1 <;> by_cases h2 : x = 2 <;> simp [h1, h2]

theorem tri_read (F : List Int) (c0 : List Int) (b : Nat) : Tri F (fun c => c = c0) (Prg.read 0 b) (fun v c => c = c0 ∧ (v = true → bitOne c0 true b = true) ∧ (v = false → bitOne c0 false b = false)) (fun c => c = c0) := by
  unfold Prg.read
  refine Tri.bind (mid := fun x c => c = c0 ∧ ∃ nz, x = fuseBit (cell c0 (3 * b)) nz) (Tri.fuse (3 * b) _ (by omega) (fun c nz h => ⟨h, nz, by rw [h]⟩) (fun c h => h)) fun x => ?_
  refine Tri.bind (mid := fun y c => c = c0 ∧ (∃ nz, x = fuseBit (cell c0 (3 * b)) nz) ∧ ∃ nz, y = fuseBit (cell c0 (3 * b + 1)) nz) (Tri.fuse (3 * b + 1) _ (by omega) (fun c nz h => ⟨h.1, h.2, nz, by rw [h.1]⟩) (fun c h => h.1)) fun y => ?_
  refine Tri.bind (mid := fun z c => c = c0 ∧ (∃ nz, x = fuseBit (cell c0 (3 * b)) nz) ∧ (∃ nz, y = fuseBit (cell c0 (3 * b + 1)) nz) ∧ ∃ nz, z = fuseBit (cell c0 (3 * b + 2)) nz) (Tri.fuse (3 * b + 2) _ (by omega) (fun c nz h => ⟨h.1, h.2.1, h.2.2, nz, by rw [h.1]⟩) (fun c h => h.1)) fun z => ?_
  refine Tri.ret ?_
  rintro c ⟨rfl, ⟨n1, rfl⟩, ⟨n2, rfl⟩, ⟨n3, rfl⟩⟩
  rw [majority3 _ _ _ (fuseBit_01 _ _) (fuseBit_01 _ _) (fuseBit_01 _ _)]
  have h1 := fuseBit_between (cell c (3 * b)) n1
  have h2 := fuseBit_between (cell c (3 * b + 1)) n2
  have h3 := fuseBit_between (cell c (3 * b + 2)) n3
  refine ⟨rfl, fun h => ?_, fun h => ?_⟩
  · unfold bitOne
    unfold cell at h h1 h2 h3
    simp only [decide_eq_true_eq] at h ⊢
    omega
  · unfold bitOne
    unfold cell at h h1 h2 h3
    simp only [decide_eq_false_iff_not] at h ⊢
    omega

/-- From c0 to c only bits of [lo, hi) have changed; those of [lo, d) are blown as far as they can be. -/
structure Blown (c0 : List Int) (lo hi d : Nat) (c : List Int) : Prop where
  evo : Evo c0 c
  out : ∀ j, (j < 3 * lo ∨ 3 * hi ≤ j) → cell c j = cell c0 j
  done : ∀ j, 3 * lo ≤ j → j < 3 * d → j < c0.length → cell c0 j ≤ 1 → cell c j = 2

theorem pulsed_no (x : Int) : pulsed x false = if x ≤ 1 then 2 else x := rfl
/-- The cells 3b .. 3b+k-1 have been pulsed. -/
structure Pul (c0 : List Int) (b k : Nat) (c : List Int) : Prop where
  evo : Evo c0 c
  out : ∀ j, (j < 3 * b ∨ 3 * b + k ≤ j) → cell c j = cell c0 j
  done : ∀ j, 3 * b ≤ j → j < 3 * b + k → j < c0.length → cell c0 j ≤ 1 → cell c j = 2
theorem Pul.step {c0 c : List Int} {b k : Nat} (h : Pul c0 b k c) : Pul c0 b (k + 1) (c.set (3 * b + k) (pulsed (cell c (3 * b + k)) false)) := by
  have hc := h.out (3 * b + k) (.inr (Nat.le_refl _))
  refine ⟨h.evo.trans (Evo.set _ _ _), fun j hj => ?_, fun j h1 h2 h3 h4 => ?_⟩
  · rw [cell_set, if_neg (by omega)]
    exact h.out j (by omega)
  · rw [cell_set]
    by_cases e : 3 * b + k = j
    · subst e
      rw [if_pos ⟨rfl, by rw [h.evo.len]; exact h3⟩, hc, pulsed_no, if_pos h4]
    · rw [if_neg (by omega)]
      exact h.done j h1 (by omega) h3 h4
theorem Pul.cut {c0 c : List Int} {b k : Nat} (h : Pul c0 b k c) (hk : k < 3) : Blown c0 b (b + 1) b (c.set (3 * b + k) (pulsed (cell c (3 * b + k)) true)) :=
  ⟨h.evo.trans (Evo.set _ _ _), fun j hj => by rw [cell_set, if_neg (by omega)]; exact h.out j (by omega), fun j h1 h2 => by omega⟩

theorem tri_pulses (F : List Int) (c0 : List Int) (b : Nat) : Tri F (fun c => c = c0) (Prg.pulses 0 b) (fun _ c => Blown c0 b (b + 1) (b + 1) c) (fun c => Blown c0 b (b + 1) b c) := by
  unfold Prg.pulses
  have h0 : Pul c0 b 0 c0 := ⟨Evo.refl _, fun j _ => rfl, fun j h1 h2 => by omega⟩
  refine Tri.bind (mid := fun _ c => Pul c0 b 1 c) (Tri.pulse (3 * b + 0) _ (by omega) (fun c h => by subst h; exact h0.step) (fun c h => by subst h; exact h0.cut (by omega))) fun _ => ?_
  refine Tri.bind (mid := fun _ c => Pul c0 b 2 c) (Tri.pulse (3 * b + 1) _ (by omega) (fun c h => h.step) (fun c h => h.cut (by omega))) fun _ => ?_
  refine Tri.bind (mid := fun _ c => Pul c0 b 3 c) (Tri.pulse (3 * b + 2) _ (by omega) (fun c h => h.step) (fun c h => h.cut (by omega))) fun _ => ?_
  exact Tri.ret fun c h => ⟨h.evo, fun j hj => h.out j (by omega), fun j h1 h2 => h.done j h1 (by omega)⟩

theorem tri_up (F : List Int) (c0 : List Int) : ∀ f n, Tri F (fun c => c = c0) (Prg.up 0 f n) (fun m c => c = c0 ∧ n ≤ m ∧ m ≤ n + f ∧ (∀ b, n ≤ b → b < m → bitOne c0 true b = true) ∧ (m < n + f → bitOne c0 false m = false)) (fun c => c = c0)
  | 0, n => Tri.ret fun c h => ⟨h, Nat.le_refl _, Nat.le_refl _, fun b h1 h2 => by omega, fun h => by omega⟩
  | f + 1, n => by
    unfold Prg.up
    refine Tri.bind (tri_read F c0 n) fun v => ?_
    cases v with
    | true =>
      refine fun c i ⟨hc, hv, _⟩ => (Tri.mono (tri_up F c0 f (n + 1)) (fun c h => h) ?_ (fun c h => h)) c i hc
      rintro m c ⟨h1, h2, h3, h4, h5⟩
      refine ⟨h1, by omega, by omega, fun b hb1 hb2 => ?_, fun h => h5 (by omega)⟩
      by_cases e : b = n
      · rw [e]; exact hv rfl
      · exact h4 b (by omega) hb2
    | false => exact Tri.ret fun c ⟨hc, _, hv⟩ => ⟨hc, Nat.le_refl _, by omega, fun b h1 h2 => by omega, fun _ => hv rfl⟩

theorem Blown.start (c : List Int) (n m : Nat) (_h : n ≤ m) : Blown c n m n c := ⟨Evo.refl _, fun _ _ => rfl, fun j h1 h2 => by omega⟩
theorem Blown.step {c0 c c' : List Int} {lo hi b d : Nat} (h : Blown c0 lo hi b c) (k : Blown c b (b + 1) d c') (_hd : d ≤ b + 1) (hlo : lo ≤ b) (hhi : b < hi) (_hbd : b ≤ d) : Blown c0 lo hi d c' := by
  refine ⟨h.evo.trans k.evo, fun j hj => ?_, fun j h1 h2 h3 h4 => ?_⟩
  · rw [k.out j (by omega)]; exact h.out j hj
  · by_cases e : j < 3 * b
    · rw [k.out j (.inl e)]
      exact h.done j h1 e h3 h4
    · by_cases e2 : cell c j ≤ 1
      · exact k.done j (by omega) h2 (by rw [h.evo.len]; exact h3) e2
      · rcases h.evo.at_ j with e3 | ⟨_, e3 | e3⟩
        · omega
        · omega
        · rcases k.evo.at_ j with e4 | e4 <;> omega

theorem tri_down (F : List Int) (c0 : List Int) (hi : Nat) : ∀ r b, b + r = hi → Tri F (fun c => Blown c0 0 hi b c) (Prg.down 0 r b) (fun _ c => Blown c0 0 hi hi c) (fun c => Blown c0 0 hi 0 c)
  | 0, b, hb => Tri.ret fun c h => by rw [← hb]; rw [← hb] at h; exact h
  | r + 1, b, hb => by
    unfold Prg.down
    refine Tri.bind (mid := fun _ c => Blown c0 0 hi (b + 1) c) (fun c i hc => ?_) fun _ => tri_down F c0 hi r (b + 1) (by omega)
    refine Tri.mono (tri_pulses F c b) (fun c h => h) (fun _ c' h => hc.step h (Nat.le_refl _) (Nat.zero_le _) (by omega) (by omega)) (fun c' h => ?_) c i rfl
    have := hc.step h (by omega) (Nat.zero_le _) (by omega) (Nat.le_refl _)
    exact ⟨this.evo, this.out, fun j h1 h2 => by omega⟩

/-- What LevelOf leaves: the level m that it read, and cells c. -/
structure LevP (c0 : List Int) (bits m d : Nat) (c : List Int) : Prop where
  le : m ≤ bits
  high : ∀ b, b < m → bitOne c0 true b = true
  low : m < bits → bitOne c0 false m = false
  blown : Blown c0 0 m d c
theorem tri_levelOf (F : List Int) (c0 : List Int) (bits : Nat) : Tri F (fun c => c = c0) (Prg.levelOf 0 bits) (fun m c => LevP c0 bits m m c) (fun c => ∃ m, LevP c0 bits m 0 c ∨ (c = c0 ∧ m = 0)) := by
  unfold Prg.levelOf
  refine Tri.bind (Tri.mono (tri_up F c0 bits 0) (fun c h => h) (fun m c h => h) (fun c h => ⟨0, .inr ⟨h, rfl⟩⟩)) fun m => ?_
  intro c i ⟨h1, _, h3, h4, h5⟩
  have hb : m ≤ bits := by omega
  have hT : Tri F (fun c => Blown c0 0 m 0 c) ((Prg.down 0 m 0).bind fun _ => Prg.ret m) (fun m' c => LevP c0 bits m' m' c) (fun c => ∃ m, LevP c0 bits m 0 c ∨ (c = c0 ∧ m = 0)) := by
    refine Tri.bind (mid := fun _ c => Blown c0 0 m m c) (Tri.mono (tri_down F c0 m m 0 (by omega)) (fun c h => h) (fun _ c h => h) (fun c h => ⟨m, .inl ⟨hb, fun b hb => h4 b (Nat.zero_le _) hb, fun h => h5 (by omega), h⟩⟩)) fun _ => ?_
    exact Tri.ret fun c h => ⟨hb, fun b hb => h4 b (Nat.zero_le _) hb, fun h => h5 (by omega), h⟩
  exact hT c i (by rw [h1]; exact Blown.start c0 0 m (Nat.zero_le _))

theorem val_bit {x : Int} (h : 0 ≤ x ∧ x ≤ 3) : x = 0 ∨ x = 1 ∨ x = 2 ∨ x = 3 := by omega
/-- A bit that could read as 1, or is not stuck, and has been blown, reads as 1. -/
theorem blown_low {c0 c : List Int} {lo hi d b : Nat} (h : Blown c0 lo hi d c) (hv : Val c0) (hb : lo ≤ b) (hd : b < d) (hl : 3 * b + 2 < c0.length) (hs : bitOne c0 true b = true ∨ stuckC c0 b ≤ 1) : bitOne c false b = true := by
  have e0 := h.done (3 * b) (by omega) (by omega) (by omega)
  have e1 := h.done (3 * b + 1) (by omega) (by omega) (by omega)
  have e2 := h.done (3 * b + 2) (by omega) (by omega) (by omega)
  have k0 := h.evo.at_ (3 * b)
  have k1 := h.evo.at_ (3 * b + 1)
  have k2 := h.evo.at_ (3 * b + 2)
  have v0 := val_bit (hv (3 * b))
  have v1 := val_bit (hv (3 * b + 1))
  have v2 := val_bit (hv (3 * b + 2))
  unfold bitOne stuckC at hs
  unfold bitOne
  unfold cell at *
  simp only [decide_eq_true_eq] at hs ⊢
  generalize c0.getD (3 * b) 0 = x0 at *
  generalize c0.getD (3 * b + 1) 0 = x1 at *
  generalize c0.getD (3 * b + 2) 0 = x2 at *
  generalize c.getD (3 * b) 0 = y0 at *
  generalize c.getD (3 * b + 1) 0 = y1 at *
  generalize c.getD (3 * b + 2) 0 = y2 at *
  have f0 : y0 = if x0 = 3 then 3 else 2 := by split <;> omega
  have f1 : y1 = if x1 = 3 then 3 else 2 := by split <;> omega
  have f2 : y2 = if x2 = 3 then 3 else 2 := by split <;> omega
  clear e0 e1 e2 k0 k1 k2
  subst f0 f1 f2
  rcases v0 with rfl | rfl | rfl | rfl <;> rcases v1 with rfl | rfl | rfl | rfl <;> rcases v2 with rfl | rfl | rfl | rfl <;> revert hs <;> decide
/-- A blown bit that does not read as 1 has two stuck cells. -/
theorem blown_stuck {c0 c : List Int} {lo hi d b : Nat} (h : Blown c0 lo hi d c) (hv : Val c0) (hb : lo ≤ b) (hd : b < d) (hl : 3 * b + 2 < c0.length) (hs : bitOne c false b = false) : 2 ≤ stuckC c0 b := by
  rcases Nat.lt_or_ge (stuckC c0 b) 2 with h1 | h1
  · rw [blown_low h hv hb hd hl (.inr (by omega))] at hs
    cases hs
  · exact h1
theorem blown_high {c0 c : List Int} {lo hi d b : Nat} (h : Blown c0 lo hi d c) (hv : Val c0) (hb : lo ≤ b) (hd : b < d) (hl : 3 * b + 2 < c0.length) (hs : bitOne c true b = true) : bitOne c false b = true := by
  by_cases hq : stuckC c0 b ≤ 1
  · exact blown_low h hv hb hd hl (.inr hq)
  · have hq' : 2 ≤ stuckC c b := by rw [h.evo.stuck]; omega
    have hv' := hv.evo h.evo
    have v0 := val_bit (hv' (3 * b))
    have v1 := val_bit (hv' (3 * b + 1))
    have v2 := val_bit (hv' (3 * b + 2))
    unfold bitOne at hs
    unfold stuckC at hq'
    unfold cell at *
    simp only [decide_eq_true_eq] at hs
    generalize c.getD (3 * b) 0 = x0 at *
    generalize c.getD (3 * b + 1) 0 = x1 at *
    generalize c.getD (3 * b + 2) 0 = x2 at *
    exfalso
    rcases v0 with rfl | rfl | rfl | rfl <;> rcases v1 with rfl | rfl | rfl | rfl <;> rcases v2 with rfl | rfl | rfl | rfl <;> revert hs hq' <;> decide

/-- What raiseFrom leaves: bits [n, m) read as one; e is the error. -/
structure RaiP (c0 : List Int) (n f m : Nat) (e : Int) (c : List Int) : Prop where
  ge : n ≤ m
  le : m ≤ n + f
  evo : Evo c0 c
  out : ∀ j, (j < 3 * n ∨ 3 * (n + f) ≤ j) → cell c j = cell c0 j
  low : ∀ b, n ≤ b → b < m → bitOne c false b = true
  ok : e = 0 ∧ m = n + f ∨ e = 12 ∧ m < n + f ∧ 2 ≤ stuckC c0 m
theorem tri_raiseFrom (F : List Int) : ∀ (f n : Nat) (c0 : List Int), Val c0 → 3 * (n + f) ≤ c0.length → Tri F (fun c => c = c0) (Prg.raiseFrom 0 f n) (fun p c => RaiP c0 n f p.1 p.2 c) (fun c => Evo c0 c ∧ ∀ j, (j < 3 * n ∨ 3 * (n + f) ≤ j) → cell c j = cell c0 j)
  | 0, n, c0, hv, hl => Tri.ret fun c h => by subst h; exact ⟨Nat.le_refl _, Nat.le_refl _, Evo.refl _, fun _ _ => rfl, fun b h1 h2 => by omega, .inl ⟨rfl, rfl⟩⟩
  | f + 1, n, c0, hv, hl => by
    unfold Prg.raiseFrom
    refine Tri.bind (Tri.mono (tri_pulses F c0 n) (fun c h => h) (fun _ c h => h) (fun c h => ⟨h.evo, fun j hj => h.out j (by omega)⟩)) fun _ => ?_
    intro c1 i1 hB
    refine Tri.bind (Tri.mono (tri_read F c1 n) (fun c h => h) (fun v c h => h) (fun c h => ?_)) (fun v => ?_) c1 i1 rfl
    · rw [h]; exact ⟨hB.evo, fun j hj => hB.out j (by omega)⟩
    · cases v with
      | true =>
        refine fun c i ⟨hc, hv1, _⟩ => (Tri.mono (tri_raiseFrom F f (n + 1) c1 (hv.evo hB.evo) (by rw [hB.evo.len]; omega)) (fun c h => h) ?_ ?_) c i hc
        · rintro ⟨m, e⟩ c' h
          have hlow := blown_high hB hv (Nat.le_refl n) (by omega) (by omega) (hv1 rfl)
          refine ⟨by have := h.ge; omega, by have := h.le; omega, hB.evo.trans h.evo, fun j hj => (h.out j (by omega)).trans (hB.out j (by omega)), fun b h1 h2 => ?_, ?_⟩
          · by_cases e : b = n
            · subst e; exact h.evo.low hlow
            · exact h.low b (by omega) h2
          · rcases h.ok with ⟨e1, e2⟩ | ⟨e1, e2, e3⟩
            · exact .inl ⟨e1, by omega⟩
            · exact .inr ⟨e1, by omega, by rw [← hB.evo.stuck]; exact e3⟩
        · rintro c' ⟨h1, h2⟩
          exact ⟨hB.evo.trans h1, fun j hj => (h2 j (by omega)).trans (hB.out j (by omega))⟩
      | false =>
        refine Tri.ret fun c ⟨hc, _, hv1⟩ => ?_
        subst hc
        exact ⟨Nat.le_refl _, by omega, hB.evo, fun j hj => hB.out j (by omega), fun b h1 h2 => by omega, .inr ⟨rfl, by omega, blown_stuck hB hv (Nat.le_refl n) (by omega) (by omega) (hv1 rfl)⟩⟩

end Go.Proofs.Ytmlekdmnpljcoaa
