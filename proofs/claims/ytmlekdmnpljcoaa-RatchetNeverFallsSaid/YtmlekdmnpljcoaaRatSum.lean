/-
  A whole session, with faults and without: plain Lean.
-/
import Derived.Test.YtmlekdmnpljcoaaRatTri
namespace Go.Proofs.Ytmlekdmnpljcoaa
open Go.RowKit

def tgt (target : Int) (bits : Nat) : Nat := (target % ((bits : Int) + 1)).toNat
theorem tgt_le (target : Int) (bits : Nat) : tgt target bits ≤ bits ∧ (target % ((bits : Int) + 1)) = (tgt target bits : Int) := by
  unfold tgt
  have h1 := Int.emod_nonneg target (show (bits : Int) + 1 ≠ 0 by omega)
  have h2 := Int.emod_lt_of_pos target (show (0 : Int) < (bits : Int) + 1 by omega)
  omega

theorem session_eq (raise : Bool) (target : Int) (bits : Nat) (hb : bits ≤ 16) :
    sessionP raise target bits = if raise then Prg.raiseTo 0 bits (tgt target bits) else (Prg.levelOf 0 bits).bind fun n => .ret (n, 0) := by
  have h := tgt_le target bits
  unfold sessionP Prg.raise Prg.level
  have hv : validB 0 (bits : Int) = true := by unfold validB; simp; omega
  rw [h.2, hv, Int.toNat_natCast, Int.toNat_natCast]
  cases raise with
  | true => 
    simp
    omega
  | false => simp

theorem level_bits (c : List Int) (nz : Bool) (bits : Nat) (hl : c.length = 3 * bits) : levelOfCells c nz = levelUp c nz bits 0 := by unfold levelOfCells; rw [hl, show 3 * bits / 3 = bits from by omega]
theorem fb_mono (x : Int) : fuseBit x false ≤ fuseBit x true := (fuseBit_between x true).1
theorem low_high {c : List Int} {b : Nat} (h : bitOne c false b = true) : bitOne c true b = true := by
  unfold bitOne at h ⊢
  have h0 := fb_mono (c.getD (3 * b) 0)
  have h1 := fb_mono (c.getD (3 * b + 1) 0)
  have h2 := fb_mono (c.getD (3 * b + 2) 0)
  simp only [decide_eq_true_eq] at h ⊢
  omega
/-- The level m that was read lies between the least and the most. -/
theorem lev_between {c0 : List Int} {bits m : Nat} (hl : c0.length = 3 * bits) (hm : m ≤ bits) (high : ∀ b, b < m → bitOne c0 true b = true) (low : m < bits → bitOne c0 false m = false) : levelOfCells c0 false ≤ m ∧ m ≤ levelOfCells c0 true := by
  rw [level_bits c0 false bits hl, level_bits c0 true bits hl]
  constructor
  · obtain ⟨_, h2, h3, _⟩ := levelUp_spec c0 false bits 0
    rcases Nat.lt_or_ge m (levelUp c0 false bits 0) with h | h
    · have := h3 m (Nat.zero_le _) h
      rw [low (by omega)] at this
      cases this
    · exact h
  · exact le_levelUp c0 true m bits 0 (fun b _ hb => high b hb) (by omega)

/-- What a session leaves that ends with level m and error e. -/
structure SesP (c0 : List Int) (bits : Nat) (raise : Bool) (t m : Nat) (e : Int) (c : List Int) : Prop where
  evo : Evo c0 c
  out : ∀ j, 3 * max (levelOfCells c0 true) (if raise then t else 0) ≤ j → cell c j = cell c0 j
  ok : (e = 0 ∧ levelOfCells c0 false ≤ m ∧ (raise = true → t ≤ m) ∧ m ≤ bits ∧ m ≤ levelOfCells c false) ∨ (raise = true ∧ e = 12 ∧ m < bits ∧ 2 ≤ stuckC c0 m)
structure SesC (c0 : List Int) (raise : Bool) (t : Nat) (c : List Int) : Prop where
  evo : Evo c0 c
  out : ∀ j, 3 * max (levelOfCells c0 true) (if raise then t else 0) ≤ j → cell c j = cell c0 j
theorem session_tri (F : List Int) (raise : Bool) (target : Int) (bits : Nat) (c0 : List Int) (hb : bits ≤ 16) (hl : c0.length = 3 * bits) (hv : Val c0) :
    Tri F (fun c => c = c0) (sessionP raise target bits) (fun p c => SesP c0 bits raise (tgt target bits) p.1 p.2 c) (SesC c0 raise (tgt target bits)) := by
  rw [session_eq raise target bits hb]
  have hcutL : ∀ c, (∃ m, LevP c0 bits m 0 c ∨ (c = c0 ∧ m = 0)) → SesC c0 raise (tgt target bits) c := by
    rintro c ⟨m, h | ⟨rfl, _⟩⟩
    · have hm := lev_between hl h.le h.high h.low
      exact ⟨h.blown.evo, fun j hj => h.blown.out j (by omega)⟩
    · exact ⟨Evo.refl _, fun _ _ => rfl⟩
  cases raise with
  | false =>
    rw [if_neg (by simp)]
    refine Tri.bind (Tri.mono (tri_levelOf F c0 bits) (fun c h => h) (fun m c h => h) hcutL) fun m => ?_
    refine Tri.ret fun c h => ?_
    have hm := lev_between hl h.le h.high h.low
    refine ⟨h.blown.evo, fun j hj => h.blown.out j (by omega), .inl ⟨rfl, hm.1, (fun e => Bool.noConfusion e), h.le, ?_⟩⟩
    rw [level_bits c false bits (by rw [h.blown.evo.len]; exact hl)]
    have := h.le
    exact le_levelUp c false m bits 0 (fun b _ hb' => blown_low h.blown hv (Nat.zero_le _) hb' (by omega) (.inl (h.high b hb'))) (by omega)
  | true =>
    rw [if_pos rfl]
    unfold Prg.raiseTo
    refine Tri.bind (Tri.mono (tri_levelOf F c0 bits) (fun c h => h) (fun m c h => h) hcutL) fun m => ?_
    intro c1 i1 h
    have hm := lev_between hl h.le h.high h.low
    have ht := (tgt_le target bits).1
    have hle := h.le
    have hlen := h.blown.evo.len
    refine Tri.mono (tri_raiseFrom F (tgt target bits - m) m c1 (hv.evo h.blown.evo) (by omega)) (fun c h => h) ?_ ?_ c1 i1 rfl
    · rintro ⟨m', e⟩ c k
      have kge := k.ge
      have kle := k.le
      refine ⟨h.blown.evo.trans k.evo, fun j hj => (k.out j (by simp at hj; omega)).trans (h.blown.out j (by simp at hj; omega)), ?_⟩
      rcases k.ok with ⟨e1, e2⟩ | ⟨e1, e2, e3⟩
      · refine .inl ⟨e1, by omega, fun _ => by show tgt target bits ≤ m'; omega, by show m' ≤ bits; omega, ?_⟩
        rw [level_bits c false bits (by rw [k.evo.len, hlen]; exact hl)]
        refine le_levelUp c false m' bits 0 (fun b _ hb' => ?_) (by omega)
        by_cases hbm : b < m
        · exact k.evo.low (blown_low h.blown hv (Nat.zero_le _) hbm (by omega) (.inl (h.high b hbm)))
        · exact k.low b (by omega) hb'
      · exact .inr ⟨rfl, e1, by show m' < bits; omega, by rw [← h.blown.evo.stuck]; exact e3⟩
    · rintro c ⟨k1, k2⟩
      exact ⟨h.blown.evo.trans k1, fun j hj => (k2 j (by simp at hj; omega)).trans (h.blown.out j (by simp at hj; omega))⟩

/-- Either the session ended, or it was cut. -/
theorem execR_cases (F : List Int) (raise : Bool) (target : Int) (bits : Nat) (c0 : List Int) (hb : bits ≤ 16) (hl : c0.length = 3 * bits) (hv : Val c0) :
    (execR raise target F bits c0).bad = false ∧
    (((execR raise target F bits c0).done = true ∧ SesP c0 bits raise (tgt target bits) (execR raise target F bits c0).out.1 (execR raise target F bits c0).out.2 (execR raise target F bits c0).cells) ∨
     ((execR raise target F bits c0).done = false ∧ SesC c0 raise (tgt target bits) (execR raise target F bits c0).cells)) := by
  rw [execR_exec raise target F bits c0 hb]
  refine ⟨rfl, ?_⟩
  have h := session_tri F raise target bits c0 hb hl hv c0 0 rfl
  generalize exec F (sessionP raise target bits) c0 0 = r at h ⊢
  obtain ⟨a, c', i'⟩ := r
  cases a with
  | some a => exact .inl ⟨rfl, h⟩
  | none => exact .inr ⟨rfl, h⟩

/-! ### Without faults -/
theorem exec_fuse0 (j : Nat) (x : Int) (hx : x = (j : Int)) (c : List Int) (i : Nat) : exec [] (Prg.fuse 0 x) c i = (some (fuseBit (cell c j) false), c, i + 1) := by subst hx; rfl
theorem exec_read0 (b : Nat) (c : List Int) (i : Nat) : exec [] (Prg.read 0 b) c i = (some (bitOne c false b), c, i + 3) := by
  unfold Prg.read
  rw [exec_bind_some (exec_fuse0 (3 * b) _ (by omega) c i), exec_bind_some (exec_fuse0 (3 * b + 1) _ (by omega) c (i + 1)), exec_bind_some (exec_fuse0 (3 * b + 2) _ (by omega) c (i + 1 + 1))]
  show (some (majorityB _), c, i + 3) = _
  rw [majority3 _ _ _ (fuseBit_01 _ _) (fuseBit_01 _ _) (fuseBit_01 _ _)]
  rfl
theorem exec_pulse0 (x : Int) (c : List Int) (i : Nat) : ∃ c', exec [] (Prg.pulse 0 x) c i = (some (), c', i + 1) := ⟨_, rfl⟩
theorem exec_pulses0 (b : Nat) (c : List Int) (i : Nat) : ∃ c', exec [] (Prg.pulses 0 b) c i = (some (), c', i + 3) := by
  unfold Prg.pulses
  obtain ⟨c1, h1⟩ := exec_pulse0 (3 * b + 0) c i
  obtain ⟨c2, h2⟩ := exec_pulse0 (3 * b + 1) c1 (i + 1)
  obtain ⟨c3, h3⟩ := exec_pulse0 (3 * b + 2) c2 (i + 1 + 1)
  exact ⟨c3, by rw [exec_bind_some h1, exec_bind_some h2, exec_bind_some h3]; rfl⟩
theorem exec_up0 (c : List Int) : ∀ f n i, exec [] (Prg.up 0 f n) c i = (some (levelUp c false f n), c, i + 3 * (levelUp c false f n - n) + if levelUp c false f n < n + f then 3 else 0)
  | 0, n, i => by
    rw [show levelUp c false 0 n = n from rfl, if_neg (by omega), Nat.sub_self]; rfl
  | f + 1, n, i => by
    unfold Prg.up
    rw [exec_bind_some (exec_read0 n c i)]
    by_cases hb : bitOne c false n = true
    · rw [hb, if_pos rfl, levelUp_yes hb, exec_up0 c f (n + 1) (i + 3)]
      have := (levelUp_spec c false f (n + 1)).1
      congr 2
      split <;> split <;> omega
    · have hb' : bitOne c false n = false := by simpa using hb
      rw [hb', levelUp_no hb', if_neg (by simp), if_pos (by omega)]
      show (some n, c, i + 3) = _
      congr 2
      omega
theorem exec_down0 : ∀ (r b : Nat) (c : List Int) (i : Nat), ∃ c', exec [] (Prg.down 0 r b) c i = (some (), c', i + 3 * r)
  | 0, b, c, i => ⟨c, rfl⟩
  | r + 1, b, c, i => by
    unfold Prg.down
    obtain ⟨c1, h1⟩ := exec_pulses0 b c i
    obtain ⟨c2, h2⟩ := exec_down0 r (b + 1) c1 (i + 3)
    exact ⟨c2, by rw [exec_bind_some h1, h2]; congr 2; omega⟩
theorem exec_levelOf0 (c : List Int) (bits i : Nat) : ∃ c', exec [] (Prg.levelOf 0 bits) c i = (some (levelUp c false bits 0), c', i + 6 * levelUp c false bits 0 + if levelUp c false bits 0 < bits then 3 else 0) := by
  unfold Prg.levelOf
  obtain ⟨c1, h1⟩ := exec_down0 (levelUp c false bits 0) 0 c (i + 3 * (levelUp c false bits 0 - 0) + if levelUp c false bits 0 < 0 + bits then 3 else 0)
  refine ⟨c1, ?_⟩
  rw [exec_bind_some (exec_up0 c bits 0 i), exec_bind_some h1]
  show (some _, c1, _) = _
  congr 2
  rw [Nat.zero_add]
  split <;> omega
theorem exec_raiseFrom0 : ∀ (f n : Nat) (c : List Int) (i : Nat), ∃ m e c' i', exec [] (Prg.raiseFrom 0 f n) c i = (some (m, e), c', i') ∧ (e = 0 → m = n + f ∧ i' = i + 6 * f) ∧ (e = 0 ∨ e = 12)
  | 0, n, c, i => ⟨n, 0, c, i, rfl, fun _ => ⟨rfl, rfl⟩, .inl rfl⟩
  | f + 1, n, c, i => by
    unfold Prg.raiseFrom
    obtain ⟨c1, h1⟩ := exec_pulses0 n c i
    rw [exec_bind_some h1, exec_bind_some (exec_read0 n c1 (i + 3))]
    by_cases hb : bitOne c1 false n = true
    · obtain ⟨m, e, c', i', h2, h3, h4⟩ := exec_raiseFrom0 f (n + 1) c1 (i + 3 + 3)
      rw [hb, if_pos rfl]
      exact ⟨m, e, c', i', h2, fun he => by have := h3 he; omega, h4⟩
    · have hb' : bitOne c1 false n = false := by simpa using hb
      rw [hb', if_neg (by simp)]
      exact ⟨n, 12, c1, i + 3 + 3, rfl, fun h => by omega, .inr rfl⟩

theorem level0 (target : Int) (bits : Nat) (c : List Int) (hb : bits ≤ 16) (hl : c.length = 3 * bits) :
    (execR false target [] bits c).done = true ∧ (execR false target [] bits c).out = (levelOfCells c false, 0) ∧ (execR false target [] bits c).many = 6 * levelOfCells c false + (if levelOfCells c false < bits then 3 else 0) := by
  rw [execR_exec false target [] bits c hb, session_eq false target bits hb, if_neg (by simp), level_bits c false bits hl]
  obtain ⟨c', h⟩ := exec_levelOf0 c bits 0
  rw [exec_bind_some h]
  exact ⟨rfl, rfl, by show 0 + 6 * _ + _ = _; omega⟩
theorem raise0 (target : Int) (bits : Nat) (c : List Int) (hb : bits ≤ 16) (hl : c.length = 3 * bits) :
    (execR true target [] bits c).done = true ∧ ((execR true target [] bits c).out.2 = 0 ∨ (execR true target [] bits c).out.2 = 12) ∧
    ((execR true target [] bits c).out.2 = 0 → (execR true target [] bits c).out.1 = max (levelOfCells c false) (tgt target bits) ∧
      (execR true target [] bits c).many = 6 * levelOfCells c false + (if levelOfCells c false < bits then 3 else 0) + 6 * (tgt target bits - levelOfCells c false)) := by
  rw [execR_exec true target [] bits c hb, session_eq true target bits hb, if_pos rfl, level_bits c false bits hl]
  unfold Prg.raiseTo
  obtain ⟨c', h⟩ := exec_levelOf0 c bits 0
  rw [exec_bind_some h]
  obtain ⟨m, e, c2, i2, h2, h3, h4⟩ := exec_raiseFrom0 (tgt target bits - levelUp c false bits 0) (levelUp c false bits 0) c' (0 + 6 * levelUp c false bits 0 + if levelUp c false bits 0 < bits then 3 else 0)
  rw [h2]
  refine ⟨rfl, h4, fun he => ?_⟩
  obtain ⟨h5, h6⟩ := h3 he
  refine ⟨by show m = _; omega, by show i2 = _; omega⟩

end Go.Proofs.Ytmlekdmnpljcoaa
