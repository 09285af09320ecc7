/- In drawn memory what is stored is loaded, all else stays; what lies outside is refused and changes nothing. -/
import Derived.Test.YtjnllkhchjhihaaQFnWordsx
import Derived.Test.YtjnllkhchjhihaaCurFnWords
namespace Go.Proofs.Ytjnllkhchjhihaa.Pure
open Go.RowKit Go.Proofs.Ytjnllkhchjhihaa.QFnWords Go.Proofs.YtjnllkhchjhihaaW.PrintWords Go.Proofs.YtjnllkhchjhihaaW.PrintLast Go.Proofs.Ytjnllkhchjhihaa.Aid Go.Proofs.Ytjnllkhchjhihaa.CurFnWords

theorem memory_loop (b : List Int) (d : Nat) : ∀ (n i h : Int) (m : List Int) (j : Nat), At b i → n ≤ 20 → m.length ≤ j → j ≤ 20 → 20 - j = d →
    Tells (fun k => spec_l2memory.l0 k n (j : Int) b i h m) (fun r => At b r.2.1 ∧ r.1.length ≤ 20) := by
  induction d with
  | zero =>
    intro n i h m j hi hn hm hj hd
    refine Tells.step (fun k => by rw [spec_l2memory.l0]) ?_
    exact Tells.neg (by omega) (Tells.now ⟨hi, by show m.length ≤ 20; omega⟩)
  | succ d ih =>
    intro n i h m j hi hn hm hj hd
    refine Tells.step (fun k => by rw [spec_l2memory.l0]) ?_
    refine Tells.ite (fun _ => ?_) (fun _ => Tells.now ⟨hi, by show m.length ≤ 20; omega⟩)
    refine Tells.bind (int_tells b i h hi) fun r hr => ?_
    refine Tells.pos (by omega) ?_
    rw [wrap64_id (x := (j : Int) + 1) (by omega) (by omega)]
    exact ih _ _ _ _ (j + 1) hr hn (by simp; omega) (by omega) (by omega)

theorem memory_tells (b : List Int) (i h : Int) (hi : At b i) : Tells (fun k => spec_l2memory.f k b i h) (fun r => At b r.2.1 ∧ r.1.length ≤ 20) := by
  unfold spec_l2memory.f
  obtain ⟨r, i1, h1, e, hi1, _, hr1, _⟩ := below_some b i h 20 hi
  have := hr1 (by omega)
  simp only [e, Option.bind_some]
  exact memory_loop b 20 r i1 h1 [] 0 hi1 (by omega) (by simp) (by omega) (by omega)

theorem place_some (b : List Int) (i h n : Int) (hi : At b i) : ∃ r i' h', spec_l2place.f b i h n = some (r, i', h') ∧ At b i' := by
  unfold spec_l2place.f
  obtain ⟨o, i1, h1, e, hi1⟩ := once_some b i h 4 hi
  simp only [e, Option.bind_some]
  by_cases c : o = true
  · rw [if_pos c]
    obtain ⟨q, i2, h2, e2, hi2, _⟩ := pick_some b i1 h1 [(-1), n, wrap64 (n + 1), wrap64 (n - 1), 9223372036854775807, (-9223372036854775808)] hi1 (by simp)
    rw [e2]; exact ⟨_, _, _, rfl, hi2⟩
  · rw [if_neg c]
    obtain ⟨q, i2, h2, e2, hi2, _⟩ := below_some b i1 h1 (wrap64 (n + 1)) hi1
    rw [e2]; exact ⟨_, _, _, rfl, hi2⟩

theorem draw_tells (x : List Int) (hx : x.length ≤ 9223372036854775807) : Tells (fun k => spec_DrawStoreWord.f k x) (fun r => r.1.length ≤ 20) := by
  unfold spec_DrawStoreWord.f
  refine Tells.bind (new_tells x hx) fun r hr => ?_
  obtain ⟨b, i, h⟩ := r
  obtain ⟨rfl, hi⟩ := hr
  refine Tells.bind (memory_tells b i h hi) fun r hr => ?_
  obtain ⟨q, i2, h2, e2, hi2⟩ := place_some b r.2.1 r.2.2 (r.1.length : Int) hr.1
  simp only [e2, Option.bind_some]
  exact Tells.bind (int_tells b i2 h2 hi2) fun s _ => Tells.now hr.2

theorem load_is (x : List Int) (a : Int) (hx : x.length ≤ 1048576) : impl_LoadWord.f x a = if 0 ≤ a ∧ a < (x.length : Int) then some (rd x a, true) else some (0, false) := by
  unfold impl_LoadWord.f impl_in.f
  rw [wrap64_id (by omega) (by omega)]
  by_cases h0 : 0 ≤ a
  · rw [if_pos h0]; simp only [Option.bind_some]
    by_cases h1 : a < (x.length : Int)
    · rw [if_pos (by simp; omega), if_pos h0, if_pos h1, if_pos ⟨h0, h1⟩]
    · rw [if_neg (by simp; omega), if_neg (by omega)]
  · rw [if_neg h0, if_neg (show ¬ (0 ≤ a ∧ a < (x.length : Int)) by omega)]; rfl

/-- What the store leaves: the word at p, where it is one; all else as it was. -/
theorem store_is (x : List Int) (p v : Int) (hx : x.length ≤ 1048576) : impl_StoreWord.f x p v = some (if 0 ≤ p ∧ p < (x.length : Int) then x.set p.toNat v else x, decide (0 ≤ p ∧ p < (x.length : Int))) := by
  unfold impl_StoreWord.f impl_in.f slices_Clone_int_int.f
  rw [wrap64_id (by omega) (by omega), if_pos (show x.length < 17592186044416 by omega)]
  simp only [Option.bind_some]
  by_cases h0 : 0 ≤ p
  · rw [if_pos h0]
    by_cases h1 : p < (x.length : Int)
    · have e : decide (p ≤ (x.length : Int) - 1) = true := decide_eq_true (by omega)
      simp only [e, Option.bind_some, if_true]
      rw [if_pos h0, if_pos h1, if_pos ⟨h0, h1⟩, decide_eq_true ⟨h0, h1⟩]
    · have e : decide (p ≤ (x.length : Int) - 1) = false := decide_eq_false (by omega)
      simp only [e, Option.bind_some]
      rw [if_neg (by simp), if_neg (by omega), decide_eq_false (by omega)]
  · rw [if_neg h0, if_neg (by omega), decide_eq_false (by omega)]
    simp

theorem words_loop (x : List Int) (p v : Int) (hx : x.length ≤ 1048576) (d : Nat) : ∀ i : Nat, i ≤ x.length → x.length - i = d →
    Tells (fun k => laws_FnWords.l0 k p v (decide (0 ≤ p ∧ p < (x.length : Int))) (i : Int) x (if 0 ≤ p ∧ p < (x.length : Int) then x.set p.toNat v else x)) (fun r => r = true) := by
  have hy : (if 0 ≤ p ∧ p < (x.length : Int) then x.set p.toNat v else x).length = x.length := by split <;> simp
  have hnew : impl_NewMemory.f 2 = some ([0, 0], true) := by decide
  induction d with
  | zero =>
    intro i hi hd
    refine Tells.step (fun k => by rw [laws_FnWords.l0]) ?_
    refine Tells.neg (by omega) ?_
    rw [load_is x _ hx, load_is x _ hx, if_neg (by omega), if_neg (by omega), hnew]
    exact Tells.eq (by simp) rfl
  | succ d ih =>
    intro i hi hd
    refine Tells.step (fun k => by rw [laws_FnWords.l0]) ?_
    refine Tells.pos (by omega) ?_
    rw [load_is _ _ (by omega), if_pos (by rw [hy]; omega)]
    simp only [Option.bind_some]
    refine Tells.pos (by omega) ?_
    have next := ih (i + 1) (by omega) (by omega)
    have er : rd (if 0 ≤ p ∧ p < (x.length : Int) then x.set p.toNat v else x) (i : Int) = if (decide (0 ≤ p ∧ p < (x.length : Int)) && ((i : Int) == p)) = true then v else rd x i := by
      by_cases c : 0 ≤ p ∧ p < (x.length : Int)
      · rw [if_pos c, decide_eq_true c, Bool.true_and]
        by_cases e : (i : Int) = p
        · rw [if_pos (beq_iff_eq.2 e), rd_eq _ _ (by simp; omega), List.getElem_set, if_pos (by omega)]
        · rw [if_neg (fun h => e (beq_iff_eq.1 h)), rd_eq _ _ (by simp; omega), rd_eq _ _ (by omega), List.getElem_set, if_neg (by omega)]
      · rw [if_neg c, decide_eq_false c, Bool.false_and]
        rfl
    have step : ∀ (q : Bool) (u : Int), u = (if q = true then v else rd x i) → Tells (fun k => laws_FnWords.j2 k p v (decide (0 ≤ p ∧ p < (x.length : Int))) (i : Int) u true (rd x i) q x (if 0 ≤ p ∧ p < (x.length : Int) then x.set p.toNat v else x)) (fun r => r = true) := by
      intro q u hu
      refine Tells.step (fun k => by rw [laws_FnWords.j2]) ?_
      rw [wrap64_id (x := (i : Int) + 1) (by omega) (by omega)]
      refine Tells.ite (fun hq => ?_) (fun hq => ?_)
      · rw [if_pos hq] at hu
        exact Tells.pos rfl (Tells.pos hu next)
      · rw [if_neg hq] at hu
        exact Tells.pos rfl (Tells.pos hu next)
    rw [er]
    by_cases c : 0 ≤ p ∧ p < (x.length : Int)
    · refine Tells.pos (decide_eq_true c) (step _ _ ?_)
      simp only [decide_eq_true c, Bool.true_and]
    · refine Tells.neg (by simp only [decide_eq_false c]; simp) (step _ _ ?_)
      simp only [decide_eq_false c, Bool.false_and]

theorem FnWords : laws_FnWords.Pure := by
  intro x hx _ _
  refine Tells.rounds ?_
  unfold laws_FnWords.f
  refine Tells.bind (draw_tells x (by unfold maxLen at hx; omega)) fun r hr => ?_
  obtain ⟨m, p, v⟩ := r
  have hm : m.length ≤ 20 := hr
  simp only [store_is m p v (by omega), Option.bind_some]
  have go : Tells (fun k => laws_FnWords.j0 k p v (decide (0 ≤ p ∧ p < (m.length : Int))) false m (if 0 ≤ p ∧ p < (m.length : Int) then m.set p.toNat v else m)) (fun r => r = true) := by
    refine Tells.step (fun k => by rw [laws_FnWords.j0]) ?_
    exact Tells.neg (by simp) (words_loop m p v (by omega) _ 0 (by omega) rfl)
  have hlen : (((if 0 ≤ p ∧ p < (m.length : Int) then m.set p.toNat v else m).length : Int) != (m.length : Int)) = false := by
    split <;> simp
  rw [hlen]
  by_cases h0 : p ≥ 0
  · refine Tells.pos h0 (Tells.neg ?_ go)
    by_cases h1 : p < (m.length : Int)
    · rw [decide_eq_true (show 0 ≤ p ∧ p < (m.length : Int) from ⟨h0, h1⟩), decide_eq_true h1]; simp
    · rw [decide_eq_false (show ¬ (0 ≤ p ∧ p < (m.length : Int)) by omega), decide_eq_false h1]; simp
  · refine Tells.neg h0 (Tells.neg ?_ go)
    rw [decide_eq_false (show ¬ (0 ≤ p ∧ p < (m.length : Int)) by omega)]; simp

end Go.Proofs.Ytjnllkhchjhihaa.Pure
