/- CopyWords of the program answers as the reference's, for every memory and all numbers; it writes into no argument, and its answer owns its memory. -/
import Derived.Test.YtjnllkhchjhihaaQFnExactCopyWordsx
import Derived.Test.YtjnllkhchjhihaaIntMFnExactCopyWords
import Derived.Test.YtjnllkhchjhihaaToIFnExactCopyWords
import Derived.Test.YtjnllkhchjhihaaCopyPFnExactCopyWords
namespace Go.Proofs.Ytjnllkhchjhihaa.Pure
open Go.RowKit Go.Proofs.Ytjnllkhchjhihaa.QFnExactCopyWords Go.Proofs.YtjnllkhchjhihaaW.PrintWords Go.Proofs.YtjnllkhchjhihaaW.PrintLast Go.Proofs.Ytjnllkhchjhihaa.Aid Go.Proofs.Ytjnllkhchjhihaa.IntSFnExactCopyWords Go.Proofs.Ytjnllkhchjhihaa.CopyPFnExactCopyWords

theorem cp_step {x : List Int} {f t : Int} {i : Nat} (h0 : 0 ≤ f) (h1 : f + i < (x.length : Int)) (h2 : 0 ≤ t) (h3 : t + i < (x.length : Int)) :
    (cp x f t i).set (t + i).toNat (rd x (f + i)) = cp x f t (i + 1 : Nat) := by
  have o1 : Ok x f t i := ⟨by omega, h0, by omega, h2, by omega⟩
  have o2 : Ok x f t (i + 1 : Nat) := ⟨by omega, h0, by omega, h2, by omega⟩
  apply List.ext_getElem?
  intro j
  rw [List.getElem?_set, cp_get o2, cp_get o1, cp_length o1]
  obtain ⟨a, rfl⟩ := Int.eq_ofNat_of_zero_le h0
  obtain ⟨b, rfl⟩ := Int.eq_ofNat_of_zero_le h2
  have e1 : ((b : Int) + (i : Int)).toNat = b + i := by omega
  simp only [e1, Int.toNat_natCast]
  by_cases c : b + i = j
  · subst c
    rw [if_pos rfl, if_pos (by omega), if_pos (by omega)]
    have e2 : (a : Int) + (i : Int) = ((a + i : Nat) : Int) := by omega
    rw [e2, show a + (b + i - b) = a + i from by omega]
    exact (get_rd (by omega)).symm
  · rw [if_neg c]
    by_cases d : b ≤ j ∧ j < b + i
    · rw [if_pos d, if_pos (by omega)]
    · rw [if_neg d, if_neg (by omega)]

theorem spec_loop (x : List Int) (f t n : Int) (hx : x.length ≤ 1048576) (ok : Ok x f t n) (d : Nat) : ∀ i : Nat, (i : Int) ≤ n → n.toNat - i = d →
    Tells (fun k => spec_CopyWords.l0 k f t n (i : Int) x (cp x f t i)) (fun r => r = (cp x f t n, true)) := by
  obtain ⟨h0, h1, h2, h3, h4⟩ := id ok
  induction d with
  | zero =>
    intro i hi hd
    refine Tells.step (fun k => by rw [spec_CopyWords.l0]) ?_
    refine Tells.neg (by omega) (Tells.now ?_)
    rw [show ((i : Nat) : Int) = n from by omega]
  | succ d ih =>
    intro i hi hd
    have hl : (cp x f t i).length = x.length := cp_length ⟨by omega, h1, by omega, h3, by omega⟩
    refine Tells.step (fun k => by rw [spec_CopyWords.l0]) ?_
    rw [wrap64_id (x := f + (i : Int)) (by omega) (by omega), wrap64_id (x := t + (i : Int)) (by omega) (by omega), wrap64_id (x := (i : Int) + 1) (by omega) (by omega)]
    refine Tells.pos (by omega) (Tells.pos (by omega) (Tells.pos (by omega) (Tells.pos (by omega) (Tells.pos (by omega) ?_))))
    rw [cp_step h1 (by omega) h3 (by omega)]
    exact ih (i + 1) (by omega) (by omega)

theorem range_is (x : List Int) (a n : Int) (hx : x.length ≤ 1048576) : spec_l2range.f x a n = some (decide (0 ≤ a ∧ 0 ≤ n ∧ a + n ≤ (x.length : Int))) := by
  unfold spec_l2range.f
  by_cases c0 : a ≥ 0
  · rw [if_pos c0]
    by_cases c1 : a ≤ (x.length : Int)
    · rw [if_pos c1]
      by_cases c2 : n ≥ 0
      · rw [if_pos c2, wrap64_id (by omega) (by omega)]; exact congrArg some (decide_eq_decide.2 (by omega))
      · rw [if_neg c2]; exact congrArg some (decide_eq_false (by omega)).symm
    · rw [if_neg c1]; exact congrArg some (decide_eq_false (by omega)).symm
  · rw [if_neg c0]; exact congrArg some (decide_eq_false (by omega)).symm

theorem spec_tells (x : List Int) (f t n : Int) (hx : x.length ≤ 1048576) :
    Tells (fun k => spec_CopyWords.f k x f t n) (fun r => r = (if Ok x f t n then cp x f t n else x, decide (Ok x f t n))) := by
  have no : ¬ Ok x f t n → Tells (fun k => spec_CopyWords.j0 k f t n true x x) (fun r => r = (if Ok x f t n then cp x f t n else x, decide (Ok x f t n))) := by
    intro h
    refine Tells.step (fun k => by rw [spec_CopyWords.j0]) ?_
    exact Tells.pos rfl (Tells.now (by rw [if_neg h, decide_eq_false h]))
  unfold spec_CopyWords.f spec_l2copy.f
  simp only [Option.bind_some, List.length_nil, List.nil_append, Nat.zero_add]
  rw [if_pos (show x.length < 17592186044416 by omega)]
  simp only [range_is x _ n hx, Option.bind_some]
  by_cases c1 : 0 ≤ f ∧ 0 ≤ n ∧ f + n ≤ (x.length : Int)
  · refine Tells.pos (decide_eq_true c1) ?_
    by_cases c2 : 0 ≤ t ∧ 0 ≤ n ∧ t + n ≤ (x.length : Int)
    · have ok : Ok x f t n := ⟨c1.2.1, c1.1, c1.2.2, c2.1, c2.2.2⟩
      rw [decide_eq_true c2, if_pos ok, decide_eq_true ok]
      refine Tells.step (fun k => by rw [spec_CopyWords.j0]) ?_
      refine Tells.neg (by simp) ?_
      have := spec_loop x f t n hx ok n.toNat 0 (by have := c1.2.1; omega) (by omega)
      have e : cp x f t ((0 : Nat) : Int) = x := by simp [cp, splice]
      rw [e] at this
      exact this
    · rw [decide_eq_false c2]
      exact no (fun h => c2 ⟨h.2.2.2.1, h.1, h.2.2.2.2⟩)
  · refine Tells.neg (by rw [decide_eq_false c1]; simp) ?_
    exact no (fun h => c1 ⟨h.2.1, h.1, h.2.2.1⟩)

theorem FnExactCopyWords (x : List Int) (f t n : Int) (hx : x.length ≤ maxLen) (_ : ∀ n ∈ x, (Lit.int .i64 n).wf = true) (_ : (Lit.int .i64 f).wf = true) (_ : (Lit.int .i64 t).wf = true) (_ : (Lit.int .i64 n).wf = true) :
    ∃ k, laws_FnExactCopyWords.f k x f t n = some true := by
  unfold maxLen at hx
  refine Tells.rounds ?_
  unfold laws_FnExactCopyWords.f laws_szMemory.f laws_szIntS.f
  rw [wrap64_id (by omega) (by omega)]
  by_cases hs : (1048576 : Int) - x.length < 0
  · rw [if_pos hs]
    exact Tells.eq (by simp) rfl
  rw [if_neg hs]
  simp only [Option.bind_some, if_neg hs]
  have hl : x.length ≤ 1048576 := by omega
  obtain ⟨l, b, h1, h2, hlen⟩ : ∃ l b, Tells (fun k => spec_CopyWords.f k x f t n) (fun r => r = (l, b)) ∧ impl_CopyWords.f x f t n = some (l, b) ∧ l.length = x.length := by
    refine ⟨_, _, spec_tells x f t n hl, copy_is x f t n hl, ?_⟩
    split
    · rename_i h; exact cp_length h
    · rfl
  have tom : Tells (fun k => laws_toMemory.f k x) (fun r => r = x) := by
    unfold laws_toMemory.f
    exact Tells.bind (to_tells x hl) fun r hr => Tells.now hr
  have eqm : ∀ y : List Int, y.length ≤ 1048576 → Tells (fun k => laws_eqMemory.f k y y) (fun r => r = true) := by
    intro y hy
    unfold laws_eqMemory.f
    exact Tells.bind (eq_tells _ _ hy) fun r hr => Tells.pos (by rw [hr]; simp) (Tells.now rfl)
  have markm : ∀ y : List Int, y.length ≤ 1048576 → Tells (fun k => laws_markMemory.f k y 1) (fun r => r = (1 + (y.length : Int), ups 1 y.length)) := by
    intro y hy
    unfold laws_markMemory.f
    exact Tells.bind (mark_tells y 1 hy (by omega) (by omega)) fun r hr => Tells.now hr
  have heldm : ∀ n : Nat, n ≤ 1048576 → Tells (fun k => laws_heldMemory.f k (ups 1 n) 1) (fun r => r = 1 + (n : Int)) := by
    intro n hn
    unfold laws_heldMemory.f
    refine Tells.bind (held_tells n 1 hn (by omega) (by omega)) fun r hr => ?_
    exact Tells.neg (by omega) (Tells.now hr)
  have last : Tells (fun k => laws_FnExactCopyWords.j2 k (1 + (l.length : Int)) false (ups 1 l.length)) (fun r => r = true) := by
    refine Tells.step (fun k => by rw [laws_FnExactCopyWords.j2]) ?_
    refine Tells.neg (by simp) (Tells.bind (heldm _ (by omega)) fun r hr => ?_)
    exact Tells.neg (by omega) (Tells.pos hr (Tells.now rfl))
  have mid : Tells (fun k => laws_FnExactCopyWords.j1 k f t n b false x l l) (fun r => r = true) := by
    refine Tells.step (fun k => by rw [laws_FnExactCopyWords.j1]) ?_
    refine Tells.neg (by simp) (Tells.bind (markm l (by omega)) fun r hr => ?_)
    subst hr
    refine Tells.bind (heldm _ (by omega)) fun r hr => ?_
    refine Tells.neg (by omega) (Tells.pos hr (Tells.bind tom fun r hr => ?_))
    subst hr
    simp only [h2, Option.bind_some]
    refine Tells.bind (eqm l (by omega)) fun r hr => ?_
    exact Tells.pos hr (by simpa using last)
  refine Tells.bind tom fun r hr => ?_
  subst hr
  refine Tells.bind h1 fun r hr => ?_
  subst hr
  refine Tells.bind tom fun r hr => ?_
  subst hr
  simp only [h2, Option.bind_some]
  refine Tells.bind (eqm l (by omega)) fun r hr => ?_
  refine Tells.pos hr ?_
  refine Tells.step (fun k => by rw [laws_FnExactCopyWords.j0]) ?_
  refine Tells.neg (by simp) (Tells.bind tom fun r hr => ?_)
  subst hr
  refine Tells.bind (eqm _ hl) fun r hr => ?_
  refine Tells.pos hr (Tells.bind (markm _ hl) fun r hr => ?_)
  subst hr
  refine Tells.neg (by omega) (Tells.bind (eqm l (by omega)) fun r hr => ?_)
  exact Tells.pos hr (by simpa using mid)

end Go.Proofs.Ytjnllkhchjhihaa.Pure
