/- Plain laws of the printed eqIntS of one law: lists of ints compared. -/
import Derived.Test.YtlamooicofkjlaaQFnExactDomsx
import Derived.Test.YtlamooicofkjlaaAid
namespace Go.Proofs.Ytlamooicofkjlaa.IntSFnExactDoms
open Go.RowKit Go.Proofs.Ytlamooicofkjlaa.QFnExactDoms Go.Proofs.YtlamooicofkjlaaW.PrintWords Go.Proofs.YtlamooicofkjlaaW.PrintLast Go.Proofs.Ytlamooicofkjlaa.Aid

theorem eq_loop (x y : List Int) (hx : x.length = y.length) (hm : x.length ≤ 1048576) (d : Nat) : ∀ i : Nat, i ≤ x.length → x.length - i = d →
    Tells (fun k => laws_eqIntS.l0 k x y (i : Int)) (fun r => r = decide (x.drop i = y.drop i)) := by
  induction d with
  | zero =>
    intro i hi hd
    refine Tells.step (fun k => by rw [laws_eqIntS.l0]) ?_
    refine Tells.neg (by omega) (Tells.now ?_)
    rw [List.drop_eq_nil_of_le (by omega), List.drop_eq_nil_of_le (by omega)]; rfl
  | succ d ih =>
    intro i hi hd
    refine Tells.step (fun k => by rw [laws_eqIntS.l0]) ?_
    refine Tells.pos (by omega) (Tells.pos (by omega) (Tells.pos (by omega) ?_))
    have ex : x.drop i = x[i]'(by omega) :: x.drop (i + 1) := List.drop_eq_getElem_cons (by omega)
    have ey : y.drop i = y[i]'(by omega) :: y.drop (i + 1) := List.drop_eq_getElem_cons (by omega)
    have rx : rd x i = x[i]'(by omega) := rd_eq _ _ (by omega)
    have ry : rd y i = y[i]'(by omega) := rd_eq _ _ (by omega)
    rw [rx, ry]
    refine Tells.ite (fun h => ?_) (fun h => Tells.now ?_)
    · rw [wrap64_id (by omega) (by omega)]
      refine (ih (i + 1) (by omega) (by omega)).mono fun r hr => ?_
      rw [hr, ex, ey]
      exact decide_eq_decide.2 ⟨fun k => by rw [h, k], fun k => (List.cons.inj k).2⟩
    · rw [ex, ey]
      exact (decide_eq_false fun k => h (List.cons.inj k).1).symm

theorem eq_tells (x y : List Int) (hm : x.length ≤ 1048576) : Tells (fun k => laws_eqIntS.f k x y) (fun r => r = decide (x = y)) := by
  unfold laws_eqIntS.f
  refine Tells.ite (fun h => ?_) (fun h => Tells.now ?_)
  · have := eq_loop x y (by omega) hm x.length 0 (by omega) (by omega)
    simpa using this
  · have hn : x ≠ y := fun e => h (by rw [e])
    simp [hn]

end Go.Proofs.Ytlamooicofkjlaa.IntSFnExactDoms
