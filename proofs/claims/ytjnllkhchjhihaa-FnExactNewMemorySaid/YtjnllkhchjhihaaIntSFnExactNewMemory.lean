/- Plain laws of the printed eqIntS, markIntS, heldIntS of one law: lists of ints compared, filled with numbers one behind the other, and found so. -/
import Derived.Test.YtjnllkhchjhihaaQFnExactNewMemoryx
import Derived.Test.YtjnllkhchjhihaaAid
namespace Go.Proofs.Ytjnllkhchjhihaa.IntSFnExactNewMemory
open Go.RowKit Go.Proofs.Ytjnllkhchjhihaa.QFnExactNewMemory Go.Proofs.YtjnllkhchjhihaaW.PrintWords Go.Proofs.YtjnllkhchjhihaaW.PrintLast Go.Proofs.Ytjnllkhchjhihaa.Aid

theorem eq_loop (x y : List Int) (hx : x.length = y.length) (hm : x.length ≤ 1048576) (d : Nat) : ∀ i : Nat, i ≤ x.length → x.length - i = d →
    Tells (fun k => laws_eqIntS.l0 k x y (i : Int)) (fun r => r = decide (x.drop i = y.drop i)) := by
  induction d with
  | zero =>
    intro i hi hd
    refine Tells.step (fun k => by rw [laws_eqIntS.l0]) ?_
    refine Tells.neg (by omega) (Tells.now ?_)
    rw [List.drop_eq_nil_of_le (by omega), List.drop_eq_nil_of_le (by omega)]; rfl
  | succ d ih =>
    intro i hi hd
    refine Tells.step (fun k => by rw [laws_eqIntS.l0]) ?_
    refine Tells.pos (by omega) (Tells.pos (by omega) (Tells.pos (by omega) ?_))
    have ex : x.drop i = x[i]'(by omega) :: x.drop (i + 1) := List.drop_eq_getElem_cons (by omega)
    have ey : y.drop i = y[i]'(by omega) :: y.drop (i + 1) := List.drop_eq_getElem_cons (by omega)
    have rx : rd x i = x[i]'(by omega) := rd_eq _ _ (by omega)
    have ry : rd y i = y[i]'(by omega) := rd_eq _ _ (by omega)
    rw [rx, ry]
    refine Tells.ite (fun h => ?_) (fun h => Tells.now ?_)
    · rw [wrap64_id (by omega) (by omega)]
      refine (ih (i + 1) (by omega) (by omega)).mono fun r hr => ?_
      rw [hr, ex, ey]
      exact decide_eq_decide.2 ⟨fun k => by rw [h, k], fun k => (List.cons.inj k).2⟩
    · rw [ex, ey]
      exact (decide_eq_false fun k => h (List.cons.inj k).1).symm

theorem eq_tells (x y : List Int) (hm : x.length ≤ 1048576) : Tells (fun k => laws_eqIntS.f k x y) (fun r => r = decide (x = y)) := by
  unfold laws_eqIntS.f
  refine Tells.ite (fun h => ?_) (fun h => Tells.now ?_)
  · have := eq_loop x y (by omega) hm x.length 0 (by omega) (by omega)
    simpa using this
  · have hn : x ≠ y := fun e => h (by rw [e])
    simp [hn]

theorem mark_loop (m : Nat) (d : Nat) : ∀ (x : List Int) (a : Int) (i : Nat), x.length = m → m ≤ 1048576 → i ≤ m → m - i = d → -4611686018427387904 ≤ a → a + (m - i : Nat) ≤ 4611686018427387904 →
    Tells (fun k => laws_markIntS.l0 k x a (i : Int)) (fun r => r = (a + (m - i : Nat), x.take i ++ ups a (m - i))) := by
  induction d with
  | zero =>
    intro x a i hx hm hi hd h0 h1
    refine Tells.step (fun k => by rw [laws_markIntS.l0]) ?_
    refine Tells.neg (by omega) (Tells.now ?_)
    obtain rfl : i = m := by omega
    rw [List.take_of_length_le (by omega)]
    simp [ups]
  | succ d ih =>
    intro x a i hx hm hi hd h0 h1
    refine Tells.step (fun k => by rw [laws_markIntS.l0]) ?_
    refine Tells.pos (by omega) (Tells.pos (by omega) ?_)
    rw [wrap64_id (x := a + 1) (by omega) (by omega), wrap64_id (x := (i : Int) + 1) (by omega) (by omega)]
    have := ih (x.set i a) (a + 1) (i + 1) (by simpa using hx) hm (by omega) (by omega) (by omega) (by omega)
    rw [Int.toNat_natCast]
    refine this.mono fun r hr => ?_
    rw [hr]
    have e1 : (x.set i a).take (i + 1) = x.take i ++ [a] := by
      rw [List.take_succ_eq_append_getElem (by simp; omega)]
      simp [List.take_set_of_le]
    have e2 : m - i = (m - (i + 1)) + 1 := by omega
    rw [e1, e2]
    simp only [ups]
    refine Prod.ext ?_ ?_
    · simp; omega
    · simp

theorem mark_tells (x : List Int) (a : Int) (hx : x.length ≤ 1048576) (h0 : -4611686018427387904 ≤ a) (h1 : a + x.length ≤ 4611686018427387904) :
    Tells (fun k => laws_markIntS.f k x a) (fun r => r = (a + x.length, ups a x.length)) := by
  have := mark_loop x.length x.length x a 0 rfl hx (by omega) (by omega) h0 (by simpa using h1)
  simpa [laws_markIntS.f] using this

theorem held_loop (m : Nat) (a0 : Int) (d : Nat) : ∀ (i : Nat), m ≤ 1048576 → i ≤ m → m - i = d → -4611686018427387904 ≤ a0 → a0 + m ≤ 4611686018427387904 →
    Tells (fun k => laws_heldIntS.l0 k (ups a0 m) (a0 + i) (i : Int)) (fun r => r = a0 + m) := by
  induction d with
  | zero =>
    intro i hm hi hd h0 h1
    refine Tells.step (fun k => by rw [laws_heldIntS.l0]) ?_
    refine Tells.neg (by rw [ups_length]; omega) (Tells.now ?_)
    omega
  | succ d ih =>
    intro i hm hi hd h0 h1
    refine Tells.step (fun k => by rw [laws_heldIntS.l0]) ?_
    refine Tells.pos (by rw [ups_length]; omega) (Tells.pos (by omega) (Tells.pos ?_ ?_))
    · unfold rd; rw [Int.toNat_natCast, ups_get _ _ _ (by omega)]
    · rw [wrap64_id (x := a0 + i + 1) (by omega) (by omega), wrap64_id (x := (i : Int) + 1) (by omega) (by omega)]
      have := ih (i + 1) hm (by omega) (by omega) h0 h1
      rw [Int.add_assoc]
      exact this

theorem held_tells (n : Nat) (a : Int) (hx : n ≤ 1048576) (h0 : -4611686018427387904 ≤ a) (h1 : a + n ≤ 4611686018427387904) :
    Tells (fun k => laws_heldIntS.f k (ups a n) a) (fun r => r = a + n) := by
  have := held_loop n a n 0 hx (by omega) (by omega) h0 h1
  simpa [laws_heldIntS.f] using this

end Go.Proofs.Ytjnllkhchjhihaa.IntSFnExactNewMemory
