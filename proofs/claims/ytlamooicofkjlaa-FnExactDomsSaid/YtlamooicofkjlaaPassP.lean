import Derived.Test.YtlamooicofkjlaaNearP
/- Plain theory: what a pass lowers. No program is spoken of. -/
namespace Go.Proofs.Ytlamooicofkjlaa.PassP
open Go.Proofs.Ytlamooicofkjlaa.DomP
set_option linter.unusedVariables false

/-- The sum of what is nearest, m where nothing is set. -/
def wt (m P : Nat) (o : Nat → Nat) : Nat → Nat
  | 0 => 0
  | k + 1 => wt m P o k + (if k < P then o k else m)
theorem wt_upd {m P P' c z : Nat} {o : Nat → Nat} (hP : P' = P ∧ c < P ∨ P = c ∧ P' = c + 1) (hz : z < m) (hle : c < P → z ≤ o c) : ∀ k, wt m P' (upd o c z) k ≤ wt m P o k ∧ (c < k → (c < P → z ≠ o c) → wt m P' (upd o c z) k < wt m P o k) := by
  intro k
  induction k with
  | zero => exact ⟨Nat.le_refl _, fun h => by omega⟩
  | succ k ih =>
    unfold wt
    obtain ⟨i1, i2⟩ := ih
    by_cases e : k = c
    · subst e
      rw [upd_at]
      rcases hP with ⟨h1, h2⟩ | ⟨h1, h2⟩
      · have := hle h2
        rw [if_pos (by omega), if_pos h2]
        exact ⟨by omega, fun _ h => by have := h h2; omega⟩
      · rw [if_pos (by omega), if_neg (by omega)]
        exact ⟨by omega, fun _ h => by omega⟩
    · rw [upd_ne o z e]
      have hs : (k < P') = (k < P) := by
        rcases hP with ⟨h1, h2⟩ | ⟨h1, h2⟩
        · rw [h1]
        · exact propext ⟨fun h => by omega, fun h => by omega⟩
      simp only [hs]
      exact ⟨by omega, fun h h2 => by have := i2 (by omega) h2; omega⟩
end Go.Proofs.Ytlamooicofkjlaa.PassP
