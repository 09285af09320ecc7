/- Words that are copied in drawn memory are those that were there, even where both places overlap; all others stay. -/
import Derived.Test.YtjnllkhchjhihaaQFnCopiesx
import Derived.Test.YtjnllkhchjhihaaCurFnCopies
import Derived.Test.YtjnllkhchjhihaaCopyPFnCopies
namespace Go.Proofs.Ytjnllkhchjhihaa.Pure
open Go.RowKit Go.Proofs.Ytjnllkhchjhihaa.QFnCopies Go.Proofs.YtjnllkhchjhihaaW.PrintWords Go.Proofs.YtjnllkhchjhihaaW.PrintLast Go.Proofs.Ytjnllkhchjhihaa.Aid Go.Proofs.Ytjnllkhchjhihaa.CurFnCopies Go.Proofs.Ytjnllkhchjhihaa.CopyPFnCopies

theorem memory_loop (b : List Int) (d : Nat) : ∀ (n i h : Int) (m : List Int) (j : Nat), At b i → n ≤ 20 → m.length ≤ j → j ≤ 20 → 20 - j = d →
    Tells (fun k => spec_l2memory.l0 k n (j : Int) b i h m) (fun r => At b r.2.1 ∧ r.1.length ≤ 20) := by
  induction d with
  | zero =>
    intro n i h m j hi hn hm hj hd
    refine Tells.step (fun k => by rw [spec_l2memory.l0]) ?_
    exact Tells.neg (by omega) (Tells.now ⟨hi, by show m.length ≤ 20; omega⟩)
  | succ d ih =>
    intro n i h m j hi hn hm hj hd
    refine Tells.step (fun k => by rw [spec_l2memory.l0]) ?_
    refine Tells.ite (fun _ => ?_) (fun _ => Tells.now ⟨hi, by show m.length ≤ 20; omega⟩)
    refine Tells.bind (int_tells b i h hi) fun r hr => ?_
    refine Tells.pos (by omega) ?_
    rw [wrap64_id (x := (j : Int) + 1) (by omega) (by omega)]
    exact ih _ _ _ _ (j + 1) hr hn (by simp; omega) (by omega) (by omega)

theorem memory_tells (b : List Int) (i h : Int) (hi : At b i) : Tells (fun k => spec_l2memory.f k b i h) (fun r => At b r.2.1 ∧ r.1.length ≤ 20) := by
  unfold spec_l2memory.f
  obtain ⟨r, i1, h1, e, hi1, _, hr1, _⟩ := below_some b i h 20 hi
  have := hr1 (by omega)
  simp only [e, Option.bind_some]
  exact memory_loop b 20 r i1 h1 [] 0 hi1 (by omega) (by simp) (by omega) (by omega)

theorem place_some (b : List Int) (i h n : Int) (hi : At b i) : ∃ r i' h', spec_l2place.f b i h n = some (r, i', h') ∧ At b i' := by
  unfold spec_l2place.f
  obtain ⟨o, i1, h1, e, hi1⟩ := once_some b i h 4 hi
  simp only [e, Option.bind_some]
  by_cases c : o = true
  · rw [if_pos c]
    obtain ⟨q, i2, h2, e2, hi2, _⟩ := pick_some b i1 h1 [(-1), n, wrap64 (n + 1), wrap64 (n - 1), 9223372036854775807, (-9223372036854775808)] hi1 (by simp)
    rw [e2]; exact ⟨_, _, _, rfl, hi2⟩
  · rw [if_neg c]
    obtain ⟨q, i2, h2, e2, hi2, _⟩ := below_some b i1 h1 (wrap64 (n + 1)) hi1
    rw [e2]; exact ⟨_, _, _, rfl, hi2⟩

theorem draw_tells (x : List Int) (hx : x.length ≤ 9223372036854775807) : Tells (fun k => spec_DrawCopyWords.f k x) (fun r => r.1.length ≤ 20) := by
  unfold spec_DrawCopyWords.f
  refine Tells.bind (new_tells x hx) fun r hr => ?_
  obtain ⟨b, i, h⟩ := r
  obtain ⟨rfl, hi⟩ := hr
  refine Tells.bind (memory_tells b i h hi) fun r hr => ?_
  obtain ⟨q, i2, h2, e2, hi2⟩ := place_some b r.2.1 r.2.2 (r.1.length : Int) hr.1
  obtain ⟨q3, i3, h3, e3, hi3⟩ := place_some b i2 h2 (r.1.length : Int) hi2
  obtain ⟨q4, i4, h4, e4, hi4⟩ := place_some b i3 h3 (wrap64 ((r.1.length : Int) / 2)) hi3
  simp only [e2, e3, e4, Option.bind_some]
  exact Tells.now hr.2

theorem copies_loop (x : List Int) (f t n : Int) (hx : x.length ≤ 1048576) (y : List Int) (hy : y = if Ok x f t n then cp x f t n else x) (d : Nat) : ∀ i : Nat, i ≤ x.length → x.length - i = d →
    Tells (fun k => laws_FnCopies.l0 k f t n (decide (Ok x f t n)) (i : Int) x y) (fun r => r = true) := by
  have hlen : y.length = x.length := by
    rw [hy]; split
    · rename_i h; exact cp_length h
    · rfl
  induction d with
  | zero =>
    intro i hi hd
    refine Tells.step (fun k => by rw [laws_FnCopies.l0]) ?_
    refine Tells.neg (by omega) ?_
    have ok : Ok [1, 2] 0 1 1 := by unfold Ok; decide
    have e : impl_CopyWords.f [1, 2] 0 1 1 = some ([1, 1], true) := by rw [copy_is _ _ _ _ (by simp), if_pos ok, decide_eq_true ok]; rfl
    rw [e]
    exact Tells.eq (by decide) rfl
  | succ d ih =>
    intro i hi hd
    have next := ih (i + 1) (by omega) (by omega)
    have stay : ¬ (Ok x f t n ∧ t ≤ (i : Int) ∧ (i : Int) - t < n) → Tells (fun k => laws_FnCopies.j1 k f t n (decide (Ok x f t n)) (i : Int) (rd x (i : Int)) false x y) (fun r => r = true) := by
      intro h
      refine Tells.step (fun k => by rw [laws_FnCopies.j1]) ?_
      rw [wrap64_id (x := (i : Int) + 1) (by omega) (by omega)]
      refine Tells.neg (by simp) (Tells.pos (by omega) (Tells.pos (by omega) (Tells.pos ?_ next)))
      refine rd_of_get ?_
      rw [hy]
      split
      · rename_i ok
        rw [cp_get ok, if_neg (fun k => h ⟨ok, by have := ok.2.2.2.1; omega, by have := ok.1; have := ok.2.2.2.1; omega⟩), get_rd (by omega)]
      · rw [get_rd (by omega)]
    refine Tells.step (fun k => by rw [laws_FnCopies.l0]) ?_
    refine Tells.pos (by omega) (Tells.pos (by omega) ?_)
    refine Tells.ite (fun ho => ?_) (fun ho => stay (fun h => ho (decide_eq_true h.1)))
    have ok := of_decide_eq_true ho
    obtain ⟨o0, o1, o2, o3, o4⟩ := id ok
    refine Tells.ite (fun hge => ?_) (fun hge => stay (fun h => hge h.2.1))
    rw [wrap64_id (x := (i : Int) - t) (by omega) (by omega)]
    by_cases c : (i : Int) - t < n
    · rw [decide_eq_true c]
      refine Tells.step (fun k => by rw [laws_FnCopies.j1]) ?_
      rw [wrap64_id (x := f + (i : Int)) (by omega) (by omega), wrap64_id (x := f + (i : Int) - t) (by omega) (by omega), wrap64_id (x := (i : Int) + 1) (by omega) (by omega)]
      refine Tells.pos rfl (Tells.pos (by omega) (Tells.pos (by omega) (Tells.pos (by omega) (Tells.pos (by omega) (Tells.pos ?_ next)))))
      refine rd_of_get ?_
      rw [hy, if_pos ok, cp_get ok, if_pos (by omega)]
      have e : f + (i : Int) - t = ((f.toNat + (i - t.toNat) : Nat) : Int) := by omega
      rw [e]
      exact get_rd (by omega)
    · rw [decide_eq_false c]
      exact stay (fun h => c h.2.2)

theorem FnCopies : laws_FnCopies.Pure := by
  intro x hx _ _
  refine Tells.rounds ?_
  unfold laws_FnCopies.f
  refine Tells.bind (draw_tells x (by unfold maxLen at hx; omega)) fun r hr => ?_
  obtain ⟨m, f, t, n⟩ := r
  have hm : m.length ≤ 20 := hr
  simp only [copy_is m f t n (by omega), Option.bind_some]
  refine Tells.pos ?_ ?_
  · split
    · rename_i h; rw [cp_length h]
    · rfl
  · exact copies_loop m f t n (by omega) _ rfl _ 0 (by omega) rfl

end Go.Proofs.Ytjnllkhchjhihaa.Pure
