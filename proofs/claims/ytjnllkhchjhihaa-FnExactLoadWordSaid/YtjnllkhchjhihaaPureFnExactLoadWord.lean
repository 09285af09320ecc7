/- LoadWord of the program answers as the reference's, for every memory and place, and leaves its argument alone. -/
import Derived.Test.YtjnllkhchjhihaaQFnExactLoadWordx
import Derived.Test.YtjnllkhchjhihaaToIFnExactLoadWord
namespace Go.Proofs.Ytjnllkhchjhihaa.Pure
open Go.RowKit Go.Proofs.Ytjnllkhchjhihaa.QFnExactLoadWord Go.Proofs.YtjnllkhchjhihaaW.PrintWords Go.Proofs.YtjnllkhchjhihaaW.PrintLast Go.Proofs.Ytjnllkhchjhihaa.Aid Go.Proofs.Ytjnllkhchjhihaa.IntSFnExactLoadWord

theorem FnExactLoadWord (x : List Int) (a : Int) (hx : x.length ≤ maxLen) (_ : ∀ n ∈ x, (Lit.int .i64 n).wf = true) (_ : (Lit.int .i64 a).wf = true) : ∃ k, laws_FnExactLoadWord.f k x a = some true := by
  unfold maxLen at hx
  refine Tells.rounds ?_
  unfold laws_FnExactLoadWord.f laws_szMemory.f laws_szIntS.f
  rw [wrap64_id (by omega) (by omega)]
  by_cases hs : (1048576 : Int) - x.length < 0
  · rw [if_pos hs]
    exact Tells.eq (by simp) rfl
  rw [if_neg hs]
  simp only [Option.bind_some, if_neg hs]
  have hl : x.length ≤ 1048576 := by omega
  have tom : Tells (fun k => laws_toMemory.f k x) (fun r => r = x) := by
    unfold laws_toMemory.f
    exact Tells.bind (to_tells x hl) fun r hr => Tells.now hr
  have last : Tells (fun k => laws_FnExactLoadWord.j0 k false x x) (fun r => r = true) := by
    refine Tells.step (fun k => by rw [laws_FnExactLoadWord.j0]) ?_
    refine Tells.neg (by simp) ?_
    refine Tells.bind tom fun r hr => ?_
    subst hr
    refine Tells.bind (P := fun r => r = true) ?_ fun r hr => Tells.pos hr (Tells.now rfl)
    unfold laws_eqMemory.f
    exact Tells.bind (eq_tells _ _ hl) fun r hr => Tells.pos (by rw [hr]; simp) (Tells.now rfl)
  have same : ∃ v b, spec_LoadWord.f x a = some (v, b) ∧ impl_LoadWord.f x a = some (v, b) := by
    unfold spec_LoadWord.f impl_LoadWord.f impl_in.f
    rw [wrap64_id (by omega) (by omega)]
    by_cases h0 : a < 0
    · exact ⟨0, false, by rw [if_pos h0], by rw [if_neg (by omega)]; rfl⟩
    · by_cases h1 : a ≥ (x.length : Int)
      · refine ⟨0, false, by rw [if_neg h0, if_pos h1], ?_⟩
        rw [if_pos (by omega)]; simp only [Option.bind_some]
        rw [if_neg (by simp; omega)]
      · refine ⟨rd x a, true, by rw [if_neg h0, if_neg h1, if_pos (by omega), if_pos (by omega)], ?_⟩
        rw [if_pos (by omega)]; simp only [Option.bind_some]
        rw [if_pos (by simp; omega), if_pos (by omega), if_pos (by omega)]
  obtain ⟨v, b, h1, h2⟩ := same
  refine Tells.bind tom fun r hr => ?_
  subst hr
  simp only [h1, Option.bind_some]
  refine Tells.bind tom fun r hr => ?_
  subst hr
  simp only [h2, Option.bind_some]
  refine Tells.pos trivial ?_
  simpa using last

end Go.Proofs.Ytjnllkhchjhihaa.Pure
