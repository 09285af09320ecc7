/- Contracts of the small image functions: the literal that tells a struct with too many fields, slices.IndexFunc and ContainsFunc over it. -/
import Derived.Test.YtkfeoilnhpfknaaQFnExactImageReadx0
import Derived.Lib.Hide
import Derived.WalkKit
namespace Go.Proofs.Ytkfeoilnhpfknaa.ImFnExactImageRead
open Go.RowKit Go.Proofs.Ytkfeoilnhpfknaa.QFnExactImageRead Go.Proofs.YtkfeoilnhpfknaaW.PrintWords Go.Proofs.YtkfeoilnhpfknaaW.PrintLast

theorem many (A : Option Addr) (n c : Nat) (w : World) : Calls Try.prog 29 #[.slice A n c] w fun e w' => e = .returned (.bool (decide (5 < (n : Int)))) ∧ w = w' := by
  go_enter Try.func29, Try.ntmps29
  go_wp2
  go_ret
  exact ⟨rfl, rfl⟩

/-- An index that is below 0 just where no row is too long. -/
def Found (l : List (List Bool)) (w : World) (e : Ending) (w' : World) : Prop := ∃ r : Int, e = .returned (.int .i64 r) ∧ decide (0 ≤ r) = l.any (fun s => decide (5 < s.length)) ∧ w = w'

theorem any_none {l : List (List Bool)} (h : ∀ j : Nat, j < l.length → ¬ 5 < (rd_L1 l j).length) : l.any (fun s => decide (5 < s.length)) = false := by
  rw [List.any_eq_false]
  intro s hs
  obtain ⟨j, hj, rfl⟩ := List.getElem_of_mem hs
  have := h j hj
  unfold rd_L1 at this
  simp only [Int.toNat_natCast, List.getD_eq_getElem?_getD, List.getElem?_eq_getElem hj, Option.getD_some] at this
  simpa using this
theorem any_some {l : List (List Bool)} (j : Nat) (hj : j < l.length) (h : 5 < (rd_L1 l j).length) : l.any (fun s => decide (5 < s.length)) = true := by
  rw [List.any_eq_true]
  unfold rd_L1 at h
  simp only [Int.toNat_natCast, List.getD_eq_getElem?_getD, List.getElem?_eq_getElem hj, Option.getD_some] at h
  exact ⟨l[j], List.getElem_mem hj, decide_eq_true h⟩

set_option maxHeartbeats 1000000 in
theorem index (A : Option Addr) (c : Nat) (l : List (List Bool)) (w : World) (hl : l.length ≤ 1099511627776) (hr : Kd.C (Kd.slice 4 Kd.bool) w A l.length l) : Calls Try.prog 53 #[.slice A l.length c, .func (.func 29) #[] #[]] w (Found l w) := by
  have HR := Lib.hid hr
  clear hr
  go_enter Try.func53, Try.ntmps53
  go_wp2
  go_loop [5, 8] (fun v5 v8 => ∃ i : Nat, v8 = .int .i64 i ∧ i ≤ l.length ∧ Hid (∀ j : Nat, j < i → ¬ 5 < (rd_L1 l j).length)) (fun _ v8 => (l.length - intOf v8).toNat)
  case atStart => exact ⟨0, rfl, by omega, Lib.hid (fun j hj => by omega)⟩
  case round =>
    obtain ⟨i, rfl, hi, HF⟩ := hrel
    by_cases hlt : i < l.length
    · have p : (0 : Int) ≤ (i : Int) := by omega
      have q : (i : Int) < (l.length : Int) := by omega
      obtain ⟨ad, A1, c1, e1, hx, _, _⟩ := at_L1 HR.out i p (by omega)
      subst e1
      rw [Int.toNat_natCast] at hx
      by_cases h5 : 5 < (rd_L1 l i).length
      · have h6 : decide (5 < ((rd_L1 l i).length : Int)) = true := decide_eq_true (by omega)
        have HA := Lib.hid (any_some i hlt h5)
        clear h5
        go_wp2_with (go_at_call 29; refine (many _ _ _ _).mono ?_; rintro e w' ⟨rfl, rfl⟩)
        go_ret
        exact ⟨_, rfl, by rw [HA.out]; exact decide_eq_true (by omega), rfl⟩
      · have h6 : decide (5 < ((rd_L1 l i).length : Int)) = false := decide_eq_false (by omega)
        have HF2 : Hid (∀ j : Nat, j < i + 1 → ¬ 5 < (rd_L1 l j).length) := Lib.hid (fun j hj => by
          by_cases e : j = i
          · subst e; exact h5
          · exact HF.out j (by omega))
        clear h5
        go_wp2_with (go_at_call 29; refine (many _ _ _ _).mono ?_; rintro e w' ⟨rfl, rfl⟩)
        go_round
        case rel => exact ⟨i + 1, by go_num, by omega, HF2⟩
        case measure => simp [intOf]; omega
    · have HF2 := Lib.hid (any_none (l := l) (fun j hj => HF.out j (by omega)))
      go_wp2
      go_ret
      exact ⟨_, rfl, by rw [HF2.out]; rfl, rfl⟩

theorem contains (A : Option Addr) (c : Nat) (l : List (List Bool)) (w : World) (hl : l.length ≤ 1099511627776) (hr : Kd.C (Kd.slice 4 Kd.bool) w A l.length l) : Calls Try.prog 28 #[.slice A l.length c, .func (.func 29) #[] #[]] w fun e w' => e = .returned (.bool (l.any (fun s => decide (5 < s.length)))) ∧ w = w' := by
  have HR := Lib.hid hr
  clear hr
  go_enter Try.func28, Try.ntmps28
  go_wp2_with fail
  refine (index A c l _ hl HR.out).mono ?_
  rintro e w' ⟨r, rfl, hr, rfl⟩
  have HD := Lib.hid hr
  clear hr
  go_wp2
  go_ret
  exact ⟨by rw [← HD.out]; rfl, rfl⟩

end Go.Proofs.Ytkfeoilnhpfknaa.ImFnExactImageRead
