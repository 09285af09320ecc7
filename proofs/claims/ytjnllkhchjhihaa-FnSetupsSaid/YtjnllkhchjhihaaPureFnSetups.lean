/- A drawn setup may be just where its numbers are in bounds. -/
import Derived.Test.YtjnllkhchjhihaaQFnSetupsx3
import Derived.Test.YtjnllkhchjhihaaCurFnSetups
namespace Go.Proofs.Ytjnllkhchjhihaa.Pure
open Go.RowKit Go.Proofs.Ytjnllkhchjhihaa.QFnSetups Go.Proofs.YtjnllkhchjhihaaW.PrintWords Go.Proofs.YtjnllkhchjhihaaW.PrintLast Go.Proofs.Ytjnllkhchjhihaa.Aid Go.Proofs.Ytjnllkhchjhihaa.CurFnSetups

theorem args_last (b : List Int) (x : List Int) (n i h : Int) (hi : At b i) :
    Tells (fun k => spec_l5args.j1 k x n b i h) (fun r => At b r.2.2.1) := by
  refine Tells.step (fun k => by rw [spec_l5args.j1]) ?_
  obtain ⟨o, i1, h1, e, hi1⟩ := once_some b i h 40 hi
  simp only [e, Option.bind_some]
  refine Tells.ite (fun _ => ?_) (fun _ => Tells.now hi1)
  obtain ⟨r, i2, h2, e2, hi2, hr0, hr1, _⟩ := below_some b i1 h1 2 hi1
  have := hr1 (by omega)
  simp only [e2, Option.bind_some]
  rw [wrap64_id (by omega) (by omega)]
  exact Tells.pos (by omega) (Tells.pos (by omega) (Tells.now hi2))

theorem args_loop (b : List Int) (d : Nat) : ∀ (x : List Int) (n i h : Int) (j : Nat), At b i → n ≤ 6 → x.length ≤ j → j ≤ 6 → 6 - j = d →
    Tells (fun k => spec_l5args.l0 k x n (j : Int) b i h) (fun r => At b r.2.2.1) := by
  have done : ∀ (x : List Int) (n i h : Int) (j : Nat), At b i → ¬ (j : Int) < n → Tells (fun k => spec_l5args.l0 k x n (j : Int) b i h) (fun r => At b r.2.2.1) := by
    intro x n i h j hi hj
    refine Tells.step (fun k => by rw [spec_l5args.l0]) ?_
    refine Tells.neg hj ?_
    obtain ⟨q, i1, h1, e1, hi1, _⟩ := pick_some b i h [0, 1, 30, 400, 3000, 3000, 3000] hi (by simp)
    obtain ⟨o, i2, h2, e2, hi2⟩ := once_some b i1 h1 25 hi1
    simp only [e1, e2, Option.bind_some]
    refine Tells.ite (fun _ => ?_) (fun _ => args_last b x q i2 h2 hi2)
    obtain ⟨q, i3, h3, e3, hi3, _⟩ := pick_some b i2 h2 [(-1), 200001] hi2 (by simp)
    simp only [e3, Option.bind_some]
    exact args_last b x q i3 h3 hi3
  induction d with
  | zero =>
    intro x n i h j hi hn hx hj hd
    exact done x n i h j hi (by omega)
  | succ d ih =>
    intro x n i h j hi hn hx hj hd
    by_cases hlt : (j : Int) < n
    · refine Tells.step (fun k => by rw [spec_l5args.l0]) ?_
      refine Tells.pos hlt ?_
      refine Tells.bind (int_tells b i h hi) fun r hr => ?_
      refine Tells.pos (by omega) ?_
      rw [wrap64_id (x := (j : Int) + 1) (by omega) (by omega)]
      exact ih _ _ _ _ (j + 1) hr hn (by simp; omega) (by omega) (by omega)
    · exact done x n i h j hi hlt

theorem args_tells (b : List Int) (i h : Int) (hi : At b i) : Tells (fun k => spec_l5args.f k b i h) (fun r => At b r.2.2.1) := by
  unfold spec_l5args.f
  obtain ⟨r, i1, h1, e, hi1, hr0, hr1, _⟩ := below_some b i h 6 hi
  have := hr1 (by omega)
  simp only [e, Option.bind_some]
  exact args_loop b 6 [] r i1 h1 0 hi1 (by omega) (by simp) (by omega) (by omega)

theorem setup_loop (b : List Int) (d : Nat) : ∀ (n : Int) (i h : Int) (a0 a1 : Int) (a2 : List Int) (a3 : Int) (a4 : List Int) (j : Nat), At b i → n ≤ 40 → a4.length ≤ j → j ≤ 40 → 40 - j = d →
    Tells (fun k => spec_l12setup.l0 k n (j : Int) b i h a0 a1 a2 a3 a4) (fun _ => True) := by
  have done : ∀ (n : Int) (i h : Int) (a0 a1 : Int) (a2 : List Int) (a3 : Int) (a4 : List Int) (j : Nat), At b i → ¬ (j : Int) < n →
      Tells (fun k => spec_l12setup.l0 k n (j : Int) b i h a0 a1 a2 a3 a4) (fun _ => True) := by
    intro n i h a0 a1 a2 a3 a4 j hi hj
    refine Tells.step (fun k => by rw [spec_l12setup.l0]) ?_
    refine Tells.neg hj ?_
    obtain ⟨o, i2, h2, e2, hi2⟩ := once_some b i h 25 hi
    simp only [e2, Option.bind_some]
    refine Tells.ite (fun _ => ?_) (fun _ => Tells.now trivial)
    obtain ⟨q, i3, h3, e3, hi3, _⟩ := below_some b i2 h2 3 hi2
    simp only [e3, Option.bind_some]
    refine Tells.ite (fun _ => ?_) (fun _ => Tells.ite (fun _ => ?_) (fun _ => Tells.pos (by omega) (Tells.now trivial)))
    · obtain ⟨q, i4, h4, e4, _⟩ := pick_some b i3 h3 [7, 4001, (-1)] hi3 (by simp)
      exact Tells.eq (by rw [e4]; rfl) trivial
    · obtain ⟨q, i4, h4, e4, _⟩ := pick_some b i3 h3 [15, 2001] hi3 (by simp)
      exact Tells.eq (by rw [e4]; rfl) trivial
  induction d with
  | zero =>
    intro n i h a0 a1 a2 a3 a4 j hi hn hx hj hd
    exact done n i h a0 a1 a2 a3 a4 j hi (by omega)
  | succ d ih =>
    intro n i h a0 a1 a2 a3 a4 j hi hn hx hj hd
    by_cases hlt : (j : Int) < n
    · refine Tells.step (fun k => by rw [spec_l12setup.l0]) ?_
      refine Tells.pos hlt ?_
      obtain ⟨q, i3, h3, e3, hi3, _⟩ := below_some b i h 4 hi
      simp only [e3, Option.bind_some]
      refine Tells.pos (by omega) ?_
      rw [wrap64_id (x := (j : Int) + 1) (by omega) (by omega)]
      exact ih _ _ _ _ _ _ _ _ (j + 1) hi3 hn (by simp; omega) (by omega) (by omega)
    · exact done n i h a0 a1 a2 a3 a4 j hi hlt

theorem draw_tells (x : List Int) (hx : x.length ≤ 9223372036854775807) : Tells (fun k => spec_DrawSetupOk.f k x) (fun _ => True) := by
  unfold spec_DrawSetupOk.f
  refine Tells.bind (new_tells x hx) fun r hr => ?_
  obtain ⟨b, i, h⟩ := r
  obtain ⟨rfl, hi⟩ := hr
  refine Tells.bind (P := fun _ => True) ?_ fun r _ => Tells.now trivial
  unfold spec_l12setup.f
  refine Tells.bind (args_tells b i h hi) fun r hr => ?_
  obtain ⟨q1, i1, h1, e1, hi1, _⟩ := pick_some b _ r.2.2.2 [8, 20, 60, 200, 4000] hr (by simp)
  obtain ⟨q2, i2, h2, e2, hi2, _⟩ := pick_some b i1 h1 [16, 40, 200, 2000] hi1 (by simp)
  obtain ⟨q3, i3, h3, e3, hi3, _, hq, _⟩ := below_some b i2 h2 40 hi2
  have := hq (by omega)
  simp only [e1, e2, e3, Option.bind_some]
  exact setup_loop b 40 q3 i3 h3 q1 q2 r.1 _ [] 0 hi3 (by omega) (by simp) (by omega) (by omega)

theorem ok_is (a0 a1 : Int) (a2 : List Int) (a3 : Int) (a4 : List Int) :
    impl_SetupOk.f a0 a1 a2 a3 a4 = some (decide (a0 ≥ 8 ∧ a0 ≤ 4000 ∧ a1 ≥ 16 ∧ a1 ≤ 2000 ∧ (a2.length : Int) ≤ 100 ∧ a3 ≥ 0 ∧ a3 ≤ 200000 ∧ (a4.length : Int) ≤ 2000)) := by
  unfold impl_SetupOk.f impl_inputOk.f impl_in.f
  by_cases c0 : a0 ≥ 8 <;> by_cases c1 : a0 ≤ 4000 <;> by_cases c2 : a1 ≥ 16 <;> by_cases c3 : a1 ≤ 2000 <;> by_cases c4 : (a2.length : Int) ≤ 100 <;> by_cases c5 : a3 ≥ 0 <;> by_cases c6 : a3 ≤ 200000 <;> simp [c0, c1, c2, c3, c4, c5, c6]

theorem FnSetups : laws_FnSetups.Pure := by
  intro x hx _ _
  refine Tells.rounds ?_
  unfold laws_FnSetups.f
  refine Tells.bind (draw_tells x (by unfold maxLen at hx; omega)) fun r _ => ?_
  obtain ⟨a0, a1, a2, a3, a4⟩ := r
  simp only [ok_is, Option.bind_some]
  refine Tells.eq (P := fun r => r = true) (r := true) ?_ rfl
  by_cases c0 : a0 ≥ 8 <;> by_cases c1 : a0 ≤ 4000 <;> by_cases c2 : a1 ≥ 16 <;> by_cases c3 : a1 ≤ 2000 <;> by_cases c4 : (a2.length : Int) ≤ 100 <;> by_cases c5 : a3 ≥ 0 <;> by_cases c6 : a3 ≤ 200000 <;> simp [c0, c1, c2, c3, c4, c5, c6]

end Go.Proofs.Ytjnllkhchjhihaa.Pure
