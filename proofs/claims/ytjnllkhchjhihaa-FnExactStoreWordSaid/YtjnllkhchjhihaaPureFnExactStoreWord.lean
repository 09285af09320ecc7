/- StoreWord of the program answers as the reference's, for every memory, place and word; it writes into no argument, and its answer owns its memory. -/
import Derived.Test.YtjnllkhchjhihaaQFnExactStoreWordx
import Derived.Test.YtjnllkhchjhihaaIntMFnExactStoreWord
import Derived.Test.YtjnllkhchjhihaaToIFnExactStoreWord
namespace Go.Proofs.Ytjnllkhchjhihaa.Pure
open Go.RowKit Go.Proofs.Ytjnllkhchjhihaa.QFnExactStoreWord Go.Proofs.YtjnllkhchjhihaaW.PrintWords Go.Proofs.YtjnllkhchjhihaaW.PrintLast Go.Proofs.Ytjnllkhchjhihaa.Aid Go.Proofs.Ytjnllkhchjhihaa.IntSFnExactStoreWord

theorem store_same (x : List Int) (a v : Int) (hx : x.length ≤ 1048576) : ∃ l b, spec_StoreWord.f x a v = some (l, b) ∧ impl_StoreWord.f x a v = some (l, b) ∧ l.length = x.length := by
  unfold spec_StoreWord.f impl_StoreWord.f impl_in.f spec_l2copy.f slices_Clone_int_int.f
  rw [wrap64_id (by omega) (by omega)]
  simp only [Option.bind_some, List.length_nil, List.nil_append, Nat.zero_add]
  rw [if_pos (show x.length < 17592186044416 by omega)]
  simp only [Option.bind_some]
  by_cases h0 : a < 0
  · refine ⟨x, false, by rw [if_pos h0], ?_, rfl⟩
    rw [if_neg (show ¬ 0 ≤ a by omega)]; rfl
  · rw [if_neg h0, if_pos (show 0 ≤ a by omega)]
    by_cases h1 : a ≥ (x.length : Int)
    · refine ⟨x, false, by rw [if_pos h1], ?_, rfl⟩
      have e : decide (a ≤ (x.length : Int) - 1) = false := decide_eq_false (by omega)
      simp [e]
    · rw [if_neg h1]
      refine ⟨x.set a.toNat v, true, by rw [if_pos (show a < (x.length : Int) by omega)], ?_, by simp⟩
      have e : decide (a ≤ (x.length : Int) - 1) = true := decide_eq_true (by omega)
      rw [e, if_pos (show 0 ≤ a by omega), Option.bind_some, if_pos rfl, if_pos (show 0 ≤ a by omega), if_pos (show a < (x.length : Int) by omega)]

theorem FnExactStoreWord (x : List Int) (a v : Int) (hx : x.length ≤ maxLen) (_ : ∀ n ∈ x, (Lit.int .i64 n).wf = true) (_ : (Lit.int .i64 a).wf = true) (_ : (Lit.int .i64 v).wf = true) : ∃ k, laws_FnExactStoreWord.f k x a v = some true := by
  unfold maxLen at hx
  refine Tells.rounds ?_
  unfold laws_FnExactStoreWord.f laws_szMemory.f laws_szIntS.f
  rw [wrap64_id (by omega) (by omega)]
  by_cases hs : (1048576 : Int) - x.length < 0
  · rw [if_pos hs]
    exact Tells.eq (by simp) rfl
  rw [if_neg hs]
  simp only [Option.bind_some, if_neg hs]
  have hl : x.length ≤ 1048576 := by omega
  obtain ⟨l, b, h1, h2, hlen⟩ := store_same x a v hl
  have tom : Tells (fun k => laws_toMemory.f k x) (fun r => r = x) := by
    unfold laws_toMemory.f
    exact Tells.bind (to_tells x hl) fun r hr => Tells.now hr
  have eqm : ∀ y : List Int, y.length ≤ 1048576 → Tells (fun k => laws_eqMemory.f k y y) (fun r => r = true) := by
    intro y hy
    unfold laws_eqMemory.f
    exact Tells.bind (eq_tells _ _ hy) fun r hr => Tells.pos (by rw [hr]; simp) (Tells.now rfl)
  have markm : ∀ y : List Int, y.length ≤ 1048576 → Tells (fun k => laws_markMemory.f k y 1) (fun r => r = (1 + (y.length : Int), ups 1 y.length)) := by
    intro y hy
    unfold laws_markMemory.f
    exact Tells.bind (mark_tells y 1 hy (by omega) (by omega)) fun r hr => Tells.now hr
  have heldm : ∀ n : Nat, n ≤ 1048576 → Tells (fun k => laws_heldMemory.f k (ups 1 n) 1) (fun r => r = 1 + (n : Int)) := by
    intro n hn
    unfold laws_heldMemory.f
    refine Tells.bind (held_tells n 1 hn (by omega) (by omega)) fun r hr => ?_
    exact Tells.neg (by omega) (Tells.now hr)
  have last : Tells (fun k => laws_FnExactStoreWord.j2 k (1 + (l.length : Int)) false (ups 1 l.length)) (fun r => r = true) := by
    refine Tells.step (fun k => by rw [laws_FnExactStoreWord.j2]) ?_
    refine Tells.neg (by simp) (Tells.bind (heldm _ (by omega)) fun r hr => ?_)
    exact Tells.neg (by omega) (Tells.pos hr (Tells.now rfl))
  have mid : Tells (fun k => laws_FnExactStoreWord.j1 k a v b false x l l) (fun r => r = true) := by
    refine Tells.step (fun k => by rw [laws_FnExactStoreWord.j1]) ?_
    refine Tells.neg (by simp) (Tells.bind (markm l (by omega)) fun r hr => ?_)
    subst hr
    refine Tells.bind (heldm _ (by omega)) fun r hr => ?_
    refine Tells.neg (by omega) (Tells.pos hr (Tells.bind tom fun r hr => ?_))
    subst hr
    simp only [h2, Option.bind_some]
    refine Tells.bind (eqm l (by omega)) fun r hr => ?_
    exact Tells.pos hr (by simpa using last)
  refine Tells.bind tom fun r hr => ?_
  subst hr
  simp only [h1, Option.bind_some]
  refine Tells.bind tom fun r hr => ?_
  subst hr
  simp only [h2, Option.bind_some]
  refine Tells.bind (eqm l (by omega)) fun r hr => ?_
  refine Tells.pos hr ?_
  refine Tells.step (fun k => by rw [laws_FnExactStoreWord.j0]) ?_
  refine Tells.neg (by simp) (Tells.bind tom fun r hr => ?_)
  subst hr
  refine Tells.bind (eqm _ hl) fun r hr => ?_
  refine Tells.pos hr (Tells.bind (markm _ hl) fun r hr => ?_)
  subst hr
  refine Tells.neg (by omega) (Tells.bind (eqm l (by omega)) fun r hr => ?_)
  exact Tells.pos hr (by simpa using mid)

end Go.Proofs.Ytjnllkhchjhihaa.Pure
