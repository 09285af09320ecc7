/- SetupOk of the program answers as the reference's, for every setup, and leaves its argument alone. -/
import Derived.Test.YtjnllkhchjhihaaQFnExactSetupOkx
import Derived.Test.YtjnllkhchjhihaaToIFnExactSetupOk
namespace Go.Proofs.Ytjnllkhchjhihaa.Pure
open Go.RowKit Go.Proofs.Ytjnllkhchjhihaa.QFnExactSetupOk Go.Proofs.YtjnllkhchjhihaaW.PrintWords Go.Proofs.YtjnllkhchjhihaaW.PrintLast Go.Proofs.Ytjnllkhchjhihaa.Aid Go.Proofs.Ytjnllkhchjhihaa.IntSFnExactSetupOk

def ok (a0 a1 : Int) (a2 : List Int) (a3 : Int) (a4 : List Int) : Bool := decide (a0 ≥ 8 ∧ a0 ≤ 4000 ∧ a1 ≥ 16 ∧ a1 ≤ 2000 ∧ (a2.length : Int) ≤ 100 ∧ a3 ≥ 0 ∧ a3 ≤ 200000 ∧ (a4.length : Int) ≤ 2000)

theorem impl_is (a0 a1 : Int) (a2 : List Int) (a3 : Int) (a4 : List Int) : impl_SetupOk.f a0 a1 a2 a3 a4 = some (ok a0 a1 a2 a3 a4) := by
  unfold impl_SetupOk.f impl_inputOk.f impl_in.f ok
  by_cases c0 : a0 ≥ 8 <;> by_cases c1 : a0 ≤ 4000 <;> by_cases c2 : a1 ≥ 16 <;> by_cases c3 : a1 ≤ 2000 <;> by_cases c4 : (a2.length : Int) ≤ 100 <;> by_cases c5 : a3 ≥ 0 <;> by_cases c6 : a3 ≤ 200000 <;> simp [c0, c1, c2, c3, c4, c5, c6]

theorem spec_is (a0 a1 : Int) (a2 : List Int) (a3 : Int) (a4 : List Int) : spec_SetupOk.f a0 a1 a2 a3 a4 = some (ok a0 a1 a2 a3 a4) := by
  unfold spec_SetupOk.f ok
  by_cases c0 : a0 < 8
  · rw [if_pos c0]; exact congrArg some (decide_eq_false (by omega)).symm
  rw [if_neg c0]
  by_cases c1 : a0 > 4000
  · rw [if_pos c1]; exact congrArg some (decide_eq_false (by omega)).symm
  rw [if_neg c1]
  by_cases c2 : a1 < 16
  · rw [if_pos c2]; exact congrArg some (decide_eq_false (by omega)).symm
  rw [if_neg c2]
  by_cases c3 : a1 > 2000
  · rw [if_pos c3]; exact congrArg some (decide_eq_false (by omega)).symm
  rw [if_neg c3]
  by_cases c4 : (a2.length : Int) ≤ 100
  · rw [if_pos c4]
    by_cases c5 : a3 ≥ 0
    · rw [if_pos c5]
      by_cases c6 : a3 ≤ 200000
      · rw [if_pos c6]; exact congrArg some (decide_eq_decide.2 (by omega))
      · rw [if_neg c6]; exact congrArg some (decide_eq_false (by omega)).symm
    · rw [if_neg c5]; exact congrArg some (decide_eq_false (by omega)).symm
  · rw [if_neg c4]; exact congrArg some (decide_eq_false (by omega)).symm

theorem FnExactSetupOk (a0 a1 : Int) (a2 : List Int) (a3 : Int) (a4 : List Int) (h2 : a2.length ≤ maxLen) (h4 : a4.length ≤ maxLen) : ∃ k, laws_FnExactSetupOk.f k a0 a1 a2 a3 a4 = some true := by
  unfold maxLen at h2 h4
  refine Tells.rounds ?_
  unfold laws_FnExactSetupOk.f laws_szSetup.f laws_szIntS.f
  rw [wrap64_id (x := 1048576 - (a2.length : Int)) (by omega) (by omega)]
  by_cases hs : (1048576 : Int) - a2.length < 0
  · rw [if_pos hs]
    exact Tells.eq (by simp) rfl
  rw [if_neg hs]
  simp only [Option.bind_some, if_neg hs]
  rw [wrap64_id (x := 1048576 - (a2.length : Int) - (a4.length : Int)) (by omega) (by omega)]
  by_cases hs4 : (1048576 : Int) - a2.length - a4.length < 0
  · rw [if_pos hs4]
    exact Tells.eq (by simp) rfl
  rw [if_neg hs4]
  simp only [Option.bind_some, if_neg hs4]
  have tos : Tells (fun k => laws_toSetup.f k a0 a1 a2 a3 a4) (fun r => r = (a0, a1, a2, a3, a4)) := by
    unfold laws_toSetup.f
    refine Tells.bind (to_tells a2 (by omega)) fun r hr => ?_
    subst hr
    refine Tells.bind (to_tells a4 (by omega)) fun r hr => ?_
    subst hr
    exact Tells.now rfl
  have eqs : Tells (fun k => laws_eqSetup.f k a0 a1 a2 a3 a4 a0 a1 a2 a3 a4) (fun r => r = true) := by
    unfold laws_eqSetup.f
    refine Tells.pos rfl (Tells.pos rfl ?_)
    refine Tells.bind (eq_tells a2 a2 (by omega)) fun r hr => ?_
    refine Tells.pos (by rw [hr]; simp) (Tells.pos rfl ?_)
    refine Tells.bind (eq_tells a4 a4 (by omega)) fun r hr => ?_
    exact Tells.pos (by rw [hr]; simp) (Tells.now rfl)
  obtain ⟨b, h1, h2⟩ : ∃ b, spec_SetupOk.f a0 a1 a2 a3 a4 = some b ∧ impl_SetupOk.f a0 a1 a2 a3 a4 = some b := ⟨_, spec_is .., impl_is ..⟩
  refine Tells.bind tos fun r hr => ?_
  subst hr
  simp only [h1, Option.bind_some]
  refine Tells.bind tos fun r hr => ?_
  subst hr
  simp only [h2, Option.bind_some]
  refine Tells.neg (by simp) ?_
  refine Tells.bind tos fun r hr => ?_
  subst hr
  refine Tells.bind eqs fun r hr => ?_
  exact Tells.pos hr (Tells.now rfl)

end Go.Proofs.Ytjnllkhchjhihaa.Pure
