/-
  One-time signatures: other chain values that lead to the same key hide a collision.
-/
import Derived.Test.YtjemfefkgfoikaaDoorWotsS
namespace Go.Proofs.YtjemfefkgfoikaaDoor

/-- Up to step n the two chains never meet. -/
def Apart (k : Nat) (a b : List UInt8) (n : Nat) : Prop := ∀ i, i < n → advS k a i ≠ advS k b i → advS k a (i + 1) ≠ advS k b (i + 1)
theorem apart_end {k : Nat} {a b : List UInt8} : ∀ {n : Nat}, Apart k a b n → a ≠ b → advS k a n ≠ advS k b n
  | 0, _, h => h
  | n + 1, ha, h => ha n (by omega) (apart_end (fun i hi => ha i (by omega)) h)
theorem endsS_step (f : Nat → List UInt8) (n : Nat) : endsS f (n + 1) = endsS f n ++ f n := by unfold endsS; rw [List.range_succ, List.flatMap_append]; simp
theorem endsS_length (f : Nat → List UInt8) (h : ∀ k, (f k).length = 16) : ∀ n, (endsS f n).length = 16 * n
  | 0 => rfl
  | n + 1 => by rw [endsS_step, List.length_append, endsS_length f h n, h]; omega
theorem ends_inj (f g : Nat → List UInt8) (hf : ∀ k, (f k).length = 16) (hg : ∀ k, (g k).length = 16) : ∀ n, endsS f n = endsS g n → ∀ k, k < n → f k = g k
  | 0, _ => fun k hk => by omega
  | n + 1, h => by
    rw [endsS_step, endsS_step] at h
    obtain ⟨h1, h2⟩ := List.append_inj h (by rw [endsS_length f hf, endsS_length g hg])
    intro k hk
    rcases Nat.lt_or_ge k n with hlt | hge
    · exact ends_inj f g hf hg n h1 k hlt
    · obtain rfl : k = n := by omega
      exact h2
/-- Where no chain of the two meets, the ends differ if the chain values do. -/
theorem ends_apart (c d : Nat → List UInt8) (l : Nat → Nat) (hc : ∀ k, (c k).length = 16) (hd : ∀ k, (d k).length = 16) (ha : ∀ k, k < 68 → Apart k (c k) (d k) (l k)) (hne : ∃ k, k < 68 ∧ c k ≠ d k) :
    endsS (fun k => advS k (c k) (l k)) 68 ≠ endsS (fun k => advS k (d k) (l k)) 68 := by
  intro he
  obtain ⟨k, hk, hn⟩ := hne
  have := ends_inj _ _ (fun k => advS_length k _ (hc k) _) (fun k => advS_length k _ (hd k) _) 68 he k hk
  exact apart_end (ha k hk) hn this

end Go.Proofs.YtjemfefkgfoikaaDoor
