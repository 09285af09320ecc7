/- Plain laws of the printed eqByteS, markByteS, toByteS. -/
import Derived.Test.YtkkodbbgdndhmaaDoorQFnExactLexx
import Derived.Test.YtkkodbbgdndhmaaDoorLoops
namespace Go.Proofs.YtkkodbbgdndhmaaDoor.ByteQFnExactLex
open Go.RowKit Go.Proofs.YtkkodbbgdndhmaaDoor.QFnExactLex Go.Proofs.YtkkodbbgdndhmaaDoorW.PrintWords Go.Proofs.YtkkodbbgdndhmaaDoorW.PrintLast Go.Proofs.YtkkodbbgdndhmaaDoor.Aid Go.Proofs.YtkkodbbgdndhmaaDoor.Loops

theorem eq_tells (x : List Int) (hx : x.length ≤ 1099511627776) : Tells (fun k => laws_eqByteS.f k x x) (fun r => r = true) := by
  unfold laws_eqByteS.f
  refine Tells.pos rfl ?_
  exact eq_loop x.length (fun k i => laws_eqByteS.l0 k x x i) (fun _ i => some true) (fun k i => by simp only [laws_eqByteS.l0, Option.bind_some, if_true]) (fun j hj => Tells.now rfl) hx x.length 0 (by omega) (by omega)

/-- The bytes 1, 2, .. -/
def upB (k : Int) (n : Nat) : List Int := (ups k n).map (· % 256)
theorem upB_len (k : Int) (n : Nat) : (upB k n).length = n := by unfold upB; rw [List.length_map, ups_length]
theorem upB_get (k : Int) (n i : Nat) (h : i < n) : rd (upB k n) i = (k + i) % 256 := by
  unfold rd upB
  rw [Int.toNat_natCast, List.getD_eq_getElem?_getD, List.getElem?_map]
  have h2 : (ups k n)[i]? = some (k + i) := by
    have := ups_get n k i h
    rw [List.getD_eq_getElem?_getD, List.getElem?_eq_getElem (by rw [ups_length]; exact h)] at this
    rw [List.getElem?_eq_getElem (by rw [ups_length]; exact h)]
    simpa using this
  rw [h2]; rfl
theorem ups_snoc (n : Nat) : ∀ k, ups k (n + 1) = ups k n ++ [k + n] := by
  induction n with
  | zero => intro k; simp [ups]
  | succ n ih =>
    intro k
    rw [ups, ih (k + 1), ups, List.cons_append]
    congr 3
    omega
theorem upB_snoc (k : Int) (n : Nat) : upB k (n + 1) = upB k n ++ [(k + n) % 256] := by unfold upB; rw [ups_snoc, List.map_append]; rfl

theorem mark_loop (n : Nat) (hn : n ≤ 1099511627776) (a : Int) (ha : 0 ≤ a ∧ a ≤ 1099511627776) (d : Nat) : ∀ (x : List Int) (i : Nat), x.length = n → i ≤ n → n - i = d → x.take i = upB a i → Tells (fun k => laws_markByteS.l0 k x (a + i) (i : Int)) (fun r => r = (a + n, upB a n)) := by
  induction d with
  | zero =>
    intro x i hx hi hd ht
    obtain rfl : i = n := by omega
    refine Tells.step (fun k => by rw [laws_markByteS.l0]) ?_
    refine Tells.neg (by omega) (Tells.now ?_)
    rw [List.take_of_length_le (by omega)] at ht
    rw [ht]
  | succ d ih =>
    intro x i hx hi hd ht
    refine Tells.step (fun k => by rw [laws_markByteS.l0]) ?_
    refine Tells.pos (by omega) (Tells.pos (by omega) ?_)
    rw [wrap64_id (x := (i : Int) + 1) (by omega) (by omega), wrap64_id (x := a + (i : Int) + 1) (by omega) (by omega), Int.toNat_natCast]
    have := ih (x.set i ((a + i) % 256)) (i + 1) (by simpa using hx) (by omega) (by omega) (by
      rw [List.take_succ_eq_append_getElem (by simp; omega), upB_snoc, ← ht]
      simp [List.take_set_of_le])
    rw [show a + (i : Int) + 1 = a + ((i + 1 : Nat) : Int) from by omega, show (i : Int) + 1 = ((i + 1 : Nat) : Int) from by omega]
    exact this
theorem mark_tells (x : List Int) (hx : x.length ≤ 1099511627776) (a : Int) (ha : 0 ≤ a ∧ a ≤ 1099511627776) : Tells (fun k => laws_markByteS.f k x a) (fun r => r = (a + x.length, upB a x.length)) := by
  unfold laws_markByteS.f
  have := mark_loop x.length hx a ha x.length x 0 rfl (by omega) (by omega) (by rw [List.take_zero]; rfl)
  rw [show a + ((0 : Nat) : Int) = a from by omega] at this
  exact this

theorem to_tells (x : List Int) (hx : x.length ≤ 1048576) : Tells (fun k => laws_toByteS.f k x) (fun r => r = x) := by
  unfold laws_toByteS.f
  refine Tells.pos (by omega) (Tells.pos (by omega) ?_)
  have := copy_loop x id (fun k o i => laws_toByteS.l0 k x o i) (fun _ i => some (rd x i)) (fun k x3 i => by simp only [laws_toByteS.l0, Option.bind_some]) (fun j hj => Tells.now (by rw [rd_eq x j hj]; rfl)) (by omega) x.length (List.replicate x.length 0) 0 (by simp) (by omega) (by omega) (by simp)
  rw [List.map_id] at this
  exact this

end Go.Proofs.YtkkodbbgdndhmaaDoor.ByteQFnExactLex
