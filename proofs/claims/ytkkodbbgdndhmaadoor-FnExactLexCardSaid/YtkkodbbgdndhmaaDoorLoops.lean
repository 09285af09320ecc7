/- Plain helpers: loops that copy a list, compare a list with itself, count sizes. No program is spoken of. -/
import Derived.Test.YtkkodbbgdndhmaaDoorAid
namespace Go.Proofs.YtkkodbbgdndhmaaDoor.Loops
open Go.RowKit Go.Proofs.YtkkodbbgdndhmaaDoorW.PrintWords Go.Proofs.YtkkodbbgdndhmaaDoor.Aid

theorem copy_loop {α β : Type} (x0 : List α) (m : α → β) (L : Nat → List β → Int → Option (List β)) (el : Nat → Int → Option β)
    (hstep : ∀ k x3 i, L (k + 1) x3 i = if i < (x0.length : Int) then (if 0 ≤ i then ((el k i).bind fun t => if i < (x3.length : Int) then L k (x3.set i.toNat t) (wrap64 (i + 1)) else none) else none) else some x3)
    (hel : ∀ (j : Nat) (h : j < x0.length), Tells (fun k => el k j) (fun t => t = m x0[j])) (hl : x0.length ≤ 1099511627776) (d : Nat) :
    ∀ (o : List β) (i : Nat), o.length = x0.length → i ≤ x0.length → x0.length - i = d → o.take i = (x0.map m).take i → Tells (fun k => L k o (i : Int)) (fun r => r = x0.map m) := by
  induction d with
  | zero =>
    intro o i ho hi hd ht
    refine Tells.step (fun k => hstep k o i) ?_
    refine Tells.neg (by omega) (Tells.now ?_)
    rwa [List.take_of_length_le (by omega), List.take_of_length_le (by rw [List.length_map]; omega)] at ht
  | succ d ih =>
    intro o i ho hi hd ht
    refine Tells.step (fun k => hstep k o i) ?_
    refine Tells.pos (by omega) (Tells.pos (by omega) (Tells.bind (hel i (by omega)) fun t ht2 => ?_))
    subst ht2
    refine Tells.pos (by omega) ?_
    rw [wrap64_id (x := (i : Int) + 1) (by omega) (by omega), Int.toNat_natCast]
    refine ih _ (i + 1) (by simpa using ho) (by omega) (by omega) ?_
    rw [List.take_succ_eq_append_getElem (by simp; omega), List.take_succ_eq_append_getElem (by rw [List.length_map]; omega), ← ht]
    simp [List.take_set_of_le]

theorem eq_loop (n : Nat) (L : Nat → Int → Option Bool) (e : Nat → Int → Option Bool)
    (hstep : ∀ k i, L (k + 1) i = if i < (n : Int) then (if 0 ≤ i then (if i < (n : Int) then ((e k i).bind fun t => if t = true then L k (wrap64 (i + 1)) else some false) else none) else none) else some true)
    (he : ∀ j : Nat, j < n → Tells (fun k => e k j) (fun t => t = true)) (hl : n ≤ 1099511627776) (d : Nat) : ∀ i : Nat, i ≤ n → n - i = d → Tells (fun k => L k (i : Int)) (fun r => r = true) := by
  induction d with
  | zero =>
    intro i hi hd
    refine Tells.step (fun k => hstep k i) ?_
    exact Tells.neg (by omega) (Tells.now rfl)
  | succ d ih =>
    intro i hi hd
    refine Tells.step (fun k => hstep k i) ?_
    refine Tells.pos (by omega) (Tells.pos (by omega) (Tells.pos (by omega) (Tells.bind (he i (by omega)) fun t ht => ?_)))
    refine Tells.pos ht ?_
    rw [wrap64_id (x := (i : Int) + 1) (by omega) (by omega)]
    exact ih (i + 1) (by omega) (by omega)

/-- What is left, and at most so much has been counted. -/
def LeftOf (a : Int) (n : Nat) (t : Int) : Prop := t < 0 ∨ (0 ≤ t ∧ t + n ≤ a)

def sumOf {α : Type} (sz : α → Nat) : List α → Nat
  | [] => 0
  | x :: l => sz x + sumOf sz l
theorem sum_drop {α : Type} (sz : α → Nat) (l : List α) (i : Nat) (h : i < l.length) : sumOf sz (l.drop i) = sz l[i] + sumOf sz (l.drop (i + 1)) := by
  rw [List.drop_eq_getElem_cons h]; rfl

theorem size_loop {α : Type} (x0 : List α) (sz : α → Nat) (L : Nat → Int → Int → Option Int) (el : Nat → Int → Int → Option Int)
    (hstep : ∀ k a i, L (k + 1) a i = if i < (x0.length : Int) then (if 0 ≤ i then ((el k i a).bind fun t => if t < 0 then some (-1) else L k t (wrap64 (i + 1))) else none) else some a)
    (hel : ∀ (j : Nat) (h : j < x0.length) (a : Int), 0 ≤ a → a ≤ 1048576 → Tells (fun k => el k j a) (LeftOf a (sz x0[j]))) (hl : x0.length ≤ 1099511627776) (d : Nat) :
    ∀ (a : Int) (i : Nat), 0 ≤ a → a ≤ 1048576 → i ≤ x0.length → x0.length - i = d → Tells (fun k => L k a (i : Int)) (LeftOf a (sumOf sz (x0.drop i))) := by
  induction d with
  | zero =>
    intro a i h0 h1 hi hd
    refine Tells.step (fun k => hstep k a i) ?_
    refine Tells.neg (by omega) (Tells.now ?_)
    rw [List.drop_of_length_le (by omega)]
    exact .inr ⟨h0, by simp [sumOf]⟩
  | succ d ih =>
    intro a i h0 h1 hi hd
    refine Tells.step (fun k => hstep k a i) ?_
    refine Tells.pos (by omega) (Tells.pos (by omega) (Tells.bind (hel i (by omega) a h0 h1) fun t ht => ?_))
    refine Tells.ite (fun c => Tells.now (.inl (by decide))) (fun c => ?_)
    rcases ht with ht | ⟨h2, h3⟩
    · exact absurd ht c
    · rw [wrap64_id (x := (i : Int) + 1) (by omega) (by omega)]
      refine (ih t (i + 1) h2 (by omega) (by omega) (by omega)).mono ?_
      intro r hr
      rw [sum_drop sz x0 i (by omega)]
      rcases hr with hr | ⟨h4, h5⟩
      · exact .inl hr
      · exact .inr ⟨h4, by omega⟩

end Go.Proofs.YtkkodbbgdndhmaaDoor.Loops
