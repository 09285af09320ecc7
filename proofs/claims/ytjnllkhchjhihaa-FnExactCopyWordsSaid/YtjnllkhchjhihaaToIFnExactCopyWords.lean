/- Plain law of the printed toIntS of one law: it gives the list that it was handed. -/
import Derived.Test.YtjnllkhchjhihaaIntEFnExactCopyWords
namespace Go.Proofs.Ytjnllkhchjhihaa.IntSFnExactCopyWords
open Go.RowKit Go.Proofs.Ytjnllkhchjhihaa.QFnExactCopyWords Go.Proofs.YtjnllkhchjhihaaW.PrintWords Go.Proofs.YtjnllkhchjhihaaW.PrintLast Go.Proofs.Ytjnllkhchjhihaa.Aid

theorem to_loop (x : List Int) (hx : x.length ≤ 1048576) (d : Nat) : ∀ (o : List Int) (i : Nat), o.length = x.length → i ≤ x.length → x.length - i = d → o.take i = x.take i →
    Tells (fun k => laws_toIntS.l0 k x o (i : Int)) (fun r => r = x) := by
  induction d with
  | zero =>
    intro o i ho hi hd ht
    refine Tells.step (fun k => by rw [laws_toIntS.l0]) ?_
    refine Tells.neg (by omega) (Tells.now ?_)
    rwa [List.take_of_length_le (by omega), List.take_of_length_le (by omega)] at ht
  | succ d ih =>
    intro o i ho hi hd ht
    refine Tells.step (fun k => by rw [laws_toIntS.l0]) ?_
    refine Tells.pos (by omega) (Tells.pos (by omega) (Tells.pos (by omega) ?_))
    rw [wrap64_id (x := (i : Int) + 1) (by omega) (by omega), Int.toNat_natCast, rd_eq _ _ (by omega)]
    refine ih _ (i + 1) (by simpa using ho) (by omega) (by omega) ?_
    rw [List.take_succ_eq_append_getElem (by simp; omega), List.take_succ_eq_append_getElem (by omega), ← ht]
    simp [List.take_set_of_le]

theorem to_tells (x : List Int) (hx : x.length ≤ 1048576) : Tells (fun k => laws_toIntS.f k x) (fun r => r = x) := by
  unfold laws_toIntS.f
  refine Tells.pos (by omega) (Tells.pos (by omega) ?_)
  exact to_loop x hx x.length _ 0 (by simp) (by omega) (by omega) (by simp)

end Go.Proofs.Ytjnllkhchjhihaa.IntSFnExactCopyWords
