/- Plain laws of the printed markIntS, heldIntS of one law: lists of ints filled with numbers one behind the other, and found so. -/
import Derived.Test.YtlamooicofkjlaaQFnExactDomsx
import Derived.Test.YtlamooicofkjlaaIntEFnExactDoms
namespace Go.Proofs.Ytlamooicofkjlaa.IntSFnExactDoms
open Go.RowKit Go.Proofs.Ytlamooicofkjlaa.QFnExactDoms Go.Proofs.YtlamooicofkjlaaW.PrintWords Go.Proofs.YtlamooicofkjlaaW.PrintLast Go.Proofs.Ytlamooicofkjlaa.Aid

theorem mark_loop (m : Nat) (d : Nat) : ∀ (x : List Int) (a : Int) (i : Nat), x.length = m → m ≤ 1048576 → i ≤ m → m - i = d → -4611686018427387904 ≤ a → a + (m - i : Nat) ≤ 4611686018427387904 →
    Tells (fun k => laws_markIntS.l0 k x a (i : Int)) (fun r => r = (a + (m - i : Nat), x.take i ++ ups a (m - i))) := by
  induction d with
  | zero =>
    intro x a i hx hm hi hd h0 h1
    refine Tells.step (fun k => by rw [laws_markIntS.l0]) ?_
    refine Tells.neg (by omega) (Tells.now ?_)
    obtain rfl : i = m := by omega
    rw [List.take_of_length_le (by omega)]
    simp [ups]
  | succ d ih =>
    intro x a i hx hm hi hd h0 h1
    refine Tells.step (fun k => by rw [laws_markIntS.l0]) ?_
    refine Tells.pos (by omega) (Tells.pos (by omega) ?_)
    rw [wrap64_id (x := a + 1) (by omega) (by omega), wrap64_id (x := (i : Int) + 1) (by omega) (by omega)]
    have := ih (x.set i a) (a + 1) (i + 1) (by simpa using hx) hm (by omega) (by omega) (by omega) (by omega)
    rw [Int.toNat_natCast]
    refine this.mono fun r hr => ?_
    rw [hr]
    have e1 : (x.set i a).take (i + 1) = x.take i ++ [a] := by
      rw [List.take_succ_eq_append_getElem (by simp; omega)]
      simp [List.take_set_of_le]
    have e2 : m - i = (m - (i + 1)) + 1 := by omega
    rw [e1, e2]
    simp only [ups]
    refine Prod.ext ?_ ?_
    · simp; omega
    · simp

theorem mark_tells (x : List Int) (a : Int) (hx : x.length ≤ 1048576) (h0 : -4611686018427387904 ≤ a) (h1 : a + x.length ≤ 4611686018427387904) :
    Tells (fun k => laws_markIntS.f k x a) (fun r => r = (a + x.length, ups a x.length)) := by
  have := mark_loop x.length x.length x a 0 rfl hx (by omega) (by omega) h0 (by simpa using h1)
  simpa [laws_markIntS.f] using this

theorem held_loop (m : Nat) (a0 : Int) (d : Nat) : ∀ (i : Nat), m ≤ 1048576 → i ≤ m → m - i = d → -4611686018427387904 ≤ a0 → a0 + m ≤ 4611686018427387904 →
    Tells (fun k => laws_heldIntS.l0 k (ups a0 m) (a0 + i) (i : Int)) (fun r => r = a0 + m) := by
  induction d with
  | zero =>
    intro i hm hi hd h0 h1
    refine Tells.step (fun k => by rw [laws_heldIntS.l0]) ?_
    refine Tells.neg (by rw [ups_length]; omega) (Tells.now ?_)
    omega
  | succ d ih =>
    intro i hm hi hd h0 h1
    refine Tells.step (fun k => by rw [laws_heldIntS.l0]) ?_
    refine Tells.pos (by rw [ups_length]; omega) (Tells.pos (by omega) (Tells.pos ?_ ?_))
    · unfold rd; rw [Int.toNat_natCast, ups_get _ _ _ (by omega)]
    · rw [wrap64_id (x := a0 + i + 1) (by omega) (by omega), wrap64_id (x := (i : Int) + 1) (by omega) (by omega)]
      have := ih (i + 1) hm (by omega) (by omega) h0 h1
      rw [Int.add_assoc]
      exact this

theorem held_tells (n : Nat) (a : Int) (hx : n ≤ 1048576) (h0 : -4611686018427387904 ≤ a) (h1 : a + n ≤ 4611686018427387904) :
    Tells (fun k => laws_heldIntS.f k (ups a n) a) (fun r => r = a + n) := by
  have := held_loop n a n 0 hx (by omega) (by omega) h0 h1
  simpa [laws_heldIntS.f] using this

end Go.Proofs.Ytlamooicofkjlaa.IntSFnExactDoms
