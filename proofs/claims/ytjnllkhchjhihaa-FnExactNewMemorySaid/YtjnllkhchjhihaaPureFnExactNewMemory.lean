/- NewMemory of the program answers as the reference's, field by field, for every argument; its answer owns its memory. -/
import Derived.Test.YtjnllkhchjhihaaQFnExactNewMemoryx2
import Derived.Test.YtjnllkhchjhihaaIntSFnExactNewMemory
namespace Go.Proofs.Ytjnllkhchjhihaa.Pure
open Go.RowKit Go.Proofs.Ytjnllkhchjhihaa.QFnExactNewMemory Go.Proofs.YtjnllkhchjhihaaW.PrintWords Go.Proofs.YtjnllkhchjhihaaW.PrintLast Go.Proofs.Ytjnllkhchjhihaa.Aid Go.Proofs.Ytjnllkhchjhihaa.IntSFnExactNewMemory

theorem newMemory_spec (a : Int) : ∃ l b, spec_NewMemory.f a = some (l, b) ∧ impl_NewMemory.f a = some (l, b) ∧ l.length ≤ 20000 := by
  unfold spec_NewMemory.f impl_NewMemory.f impl_in.f
  by_cases h : a < 0
  · exact ⟨[], false, by rw [if_pos h], by rw [if_neg (by omega)]; rfl, by simp⟩
  · by_cases k : a > 20000
    · exact ⟨[], false, by rw [if_neg h, if_pos k], by rw [if_pos (by omega)]; simp only [Option.bind_some]; rw [if_neg (by simp; omega)], by simp⟩
    · refine ⟨List.replicate a.toNat 0, true, ?_, ?_, by simp; omega⟩
      · rw [if_neg h, if_neg k, if_pos (by omega), if_pos (by omega)]
      · rw [if_pos (by omega)]; simp only [Option.bind_some]
        rw [if_pos (by simp; omega), if_pos (by omega), if_pos (by omega)]

theorem FnExactNewMemory : laws_FnExactNewMemory.Pure := by
  intro a _
  obtain ⟨l, b, hs, hi, hl⟩ := newMemory_spec a
  refine Tells.rounds ?_
  have eqm : Tells (fun k => laws_eqMemory.f k l l) (fun r => r = true) := by
    unfold laws_eqMemory.f
    refine Tells.bind (eq_tells l l (by omega)) fun r hr => ?_
    exact Tells.pos (by rw [hr]; simp) (Tells.now rfl)
  have heldm : Tells (fun k => laws_heldMemory.f k (ups 1 l.length) 1) (fun r => r = 1 + (l.length : Int)) := by
    unfold laws_heldMemory.f
    refine Tells.bind (held_tells l.length 1 (by omega) (by omega) (by omega)) fun r hr => ?_
    exact Tells.neg (by omega) (Tells.now hr)
  unfold laws_FnExactNewMemory.f
  simp only [hs, hi, Option.bind_some]
  refine Tells.bind eqm fun r hr => ?_
  refine Tells.pos hr ?_
  refine Tells.step (fun k => by rw [laws_FnExactNewMemory.j0]) ?_
  refine Tells.neg (by simp) ?_
  unfold laws_markMemory.f
  refine Tells.bind (P := fun r => r = (1 + (l.length : Int), ups 1 l.length)) ?_ fun r hr => ?_
  · exact Tells.bind (mark_tells l 1 (by omega) (by omega) (by omega)) fun r hr => Tells.now hr
  subst hr
  refine Tells.bind heldm fun r hr => ?_
  refine Tells.neg (by omega) (Tells.pos hr ?_)
  simp only [hi, Option.bind_some]
  refine Tells.bind eqm fun r hr => ?_
  refine Tells.pos hr ?_
  refine Tells.step (fun k => by rw [laws_FnExactNewMemory.j1]) ?_
  refine Tells.neg (by simp) ?_
  refine Tells.bind heldm fun r hr => ?_
  exact Tells.neg (by omega) (Tells.pos hr (Tells.now rfl))

end Go.Proofs.Ytjnllkhchjhihaa.Pure
