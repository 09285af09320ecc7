import Derived.Test.YtlamooicofkjlaaQFnExactDomsx6
import Derived.Test.YtlamooicofkjlaaAid
/- Plain law: slices.Reverse turns a list around. -/
namespace Go.Proofs.Ytlamooicofkjlaa.RevFnExactDoms
open Go.RowKit Go.Proofs.YtlamooicofkjlaaW.PrintWords Go.Proofs.Ytlamooicofkjlaa.Aid Go.Proofs.Ytlamooicofkjlaa.QFnExactDoms
set_option linter.unusedVariables false

/-- x is l, its first i and last i turned around. -/
def Half (l x : List Int) (i : Nat) : Prop := x.length = l.length ∧ ∀ p, p < l.length → x.getD p 0 = if p < i ∨ l.length - i ≤ p then l.getD (l.length - 1 - p) 0 else l.getD p 0
theorem rdg (x : List Int) (i : Nat) : rd x (i : Int) = x.getD i 0 := by unfold rd; rw [Int.toNat_natCast]
theorem rev_loop (l : List Int) (hl : l.length ≤ 1099511627776) (d : Nat) : ∀ (x : List Int) (i : Nat), Half l x i → l.length - i = d → i ≤ l.length → 2 * i ≤ l.length + 1 → Tells (fun k => slices_Reverse_int_int.l0 k x (i : Int) ((l.length : Int) - 1 - i)) (fun r => r = l.reverse) := by
  induction d with
  | zero =>
    intro x i h hd hi h2
    refine Tells.step (fun k => by rw [slices_Reverse_int_int.l0]) ?_
    refine Tells.neg (by omega) (Tells.now ?_)
    have e : l.length = 0 ∨ l.length = 1 := by omega
    obtain ⟨h1, h3⟩ := h
    apply List.ext_getElem (by simp [h1])
    intro p hp hq
    have hq : p < l.length := by simpa using hq
    have := h3 p hq
    rw [if_pos (by omega)] at this
    simp only [List.getD_eq_getElem?_getD, List.getElem?_eq_getElem hp, List.getElem?_eq_getElem (show l.length - 1 - p < l.length by omega), Option.getD_some] at this
    rw [List.getElem_reverse]; exact this
  | succ d ih =>
    intro x i h hd hi h2
    refine Tells.step (fun k => by rw [slices_Reverse_int_int.l0]) ?_
    by_cases c : (i : Int) < (l.length : Int) - 1 - i
    · obtain ⟨h1, h3⟩ := h
      refine Tells.pos c (Tells.pos (by omega) (Tells.pos (by omega) (Tells.pos (by omega) (Tells.pos (by omega) ?_))))
      obtain ⟨j, hj⟩ : ∃ j : Nat, j = l.length - 1 - i := ⟨_, rfl⟩
      have ej : (l.length : Int) - 1 - i = (j : Int) := by omega
      rw [ej, wrap64_id (x := (i : Int) + 1) (by omega) (by omega), wrap64_id (x := (j : Int) - 1) (by omega) (by omega), rdg, rdg, Int.toNat_natCast, Int.toNat_natCast]
      have e2 : (j : Int) - 1 = (l.length : Int) - 1 - ((i + 1 : Nat) : Int) := by omega
      rw [e2]
      refine ih _ (i + 1) ⟨by simp [h1], fun p hp => ?_⟩ (by omega) (by omega) (by omega)
      have hp3 := h3 p hp
      have hi3 := h3 i (by omega)
      have hj3 := h3 j (by omega)
      rw [if_neg (by omega)] at hi3 hj3
      rw [hi3, hj3]
      simp only [List.getD_eq_getElem?_getD, List.getElem?_set, List.length_set] at *
      by_cases p1 : p = j
      · subst p1
        rw [if_pos rfl, if_pos (by omega), if_pos (by omega)]
        have : l.length - 1 - p = i := by omega
        rw [this]; rfl
      · rw [if_neg (fun e => p1 e.symm)]
        by_cases p2 : p = i
        · subst p2
          rw [if_pos rfl, if_pos (by omega), if_pos (by omega), hj]; rfl
        · rw [if_neg (fun e => p2 e.symm), hp3]
          by_cases p3 : p < i ∨ l.length - i ≤ p
          · rw [if_pos p3, if_pos (by omega)]
          · rw [if_neg p3, if_neg (by omega)]
    · refine Tells.neg c (Tells.now ?_)
      obtain ⟨h1, h3⟩ := h
      apply List.ext_getElem (by simp [h1])
      intro p hp hq
      have hq : p < l.length := by simpa using hq
      have := h3 p hq
      rw [List.getElem_reverse]
      by_cases p3 : p < i ∨ l.length - i ≤ p
      · rw [if_pos p3] at this
        simp only [List.getD_eq_getElem?_getD, List.getElem?_eq_getElem hp, List.getElem?_eq_getElem (show l.length - 1 - p < l.length by omega), Option.getD_some] at this
        exact this
      · rw [if_neg p3] at this
        simp only [List.getD_eq_getElem?_getD, List.getElem?_eq_getElem hp, List.getElem?_eq_getElem hq, Option.getD_some] at this
        rw [this]
        congr 1
        omega
theorem rev_tells (l : List Int) (hl : l.length ≤ 1099511627776) : Tells (fun k => slices_Reverse_int_int.f k l) (fun r => r = l.reverse) := by
  unfold slices_Reverse_int_int.f
  rw [wrap64_id (by omega) (by omega)]
  have h := rev_loop l hl l.length l 0 ⟨rfl, fun p hp => by rw [if_neg (by omega)]⟩ (by omega) (by omega) (by omega)
  have e : (l.length : Int) - 1 - ((0 : Nat) : Int) = (l.length : Int) - 1 := by omega
  rw [e] at h
  exact h
end Go.Proofs.Ytlamooicofkjlaa.RevFnExactDoms
