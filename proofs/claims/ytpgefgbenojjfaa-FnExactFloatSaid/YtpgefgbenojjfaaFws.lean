/- Contract of sameFloat, and the law on Float: program and reference give one float, or both no number. -/
import Derived.Test.YtpgefgbenojjfaaFwf
namespace Go.Proofs.Ytpgefgbenojjfaa.Fw
open Go.RowKit Go.Proofs.Ytpgefgbenojjfaa.Fl

theorem nan_order {x : Nat} (hx : x < 2 ^ 64) (h : isNan x = true) : FloatKind.f64.format.order x x = none := order_nan_left hx h
theorem num_order {x : Nat} (hx : x < 2 ^ 64) (h : isNan x = false) : FloatKind.f64.format.order x x = some .eq := order_self hx h

set_option maxHeartbeats 1000000 in
theorem same_nan (a b : Nat) (ha : a < 2 ^ 64) (hb : b < 2 ^ 64) (na : isNan a = true) (nb : isNan b = true) (w : World) : Calls Try.prog 14 #[.float .f64 a, .float .f64 b] w fun e w' => e = .returned (.bool true) ∧ w = w' := by
  have h1 := nan_order ha na
  have h2 := nan_order hb nb
  clear ha hb na nb
  go_enter Try.func14, Try.ntmps14
  go_wp2
  go_ret
  exact ⟨by rfl, rfl⟩

set_option maxHeartbeats 1000000 in
theorem same_zero (s : Bool) (w : World) : Calls Try.prog 14 #[.float .f64 (Ieee.double.word s 0), .float .f64 (Ieee.double.word s 0)] w fun e w' => e = .returned (.bool true) ∧ w = w' := by
  have hlt : Ieee.double.word s 0 < 2 ^ 64 := by cases s <;> decide
  have h1 := num_order hlt (by cases s <;> decide)
  have h2 : FloatKind.f64.format.order (Ieee.double.word s 0) 0 = some .eq := by cases s <;> decide
  have h3 := run_op .quo (x := 4607182418800017408) (y := Ieee.double.word s 0) (r := Ieee.double.word s infR) (by cases s <;> decide)
  have h4 : FloatKind.f64.format.order (Ieee.double.word s infR) 0 = some (if s then .lt else .gt) := order_inf_fin s false is_zero
  generalize Ieee.double.word s 0 = a at *
  generalize Ieee.double.word s infR = b at *
  clear hlt
  cases s
  · go_enter Try.func14, Try.ntmps14
    go_wp2
    go_ret
    exact ⟨by first | rfl | simp, rfl⟩
  · go_enter Try.func14, Try.ntmps14
    go_wp2
    go_ret
    exact ⟨by first | rfl | simp, rfl⟩

theorem zero_or {x : Nat} (hx : x < 2 ^ 64) (h : isNan x = false) : (∃ s, x = Ieee.double.word s 0) ∨ (FloatKind.f64.format.order x 0 == some Ordering.eq) = false := by
  obtain ⟨s, r, rfl, rfl | hr⟩ := num_cases hx h
  · right
    have := order_inf_fin s false is_zero
    have e : FloatKind.f64.format.order (Ieee.double.word s infR) 0 = some (if s then .lt else .gt) := this
    rw [e]; cases s <;> rfl
  · by_cases c : r = 0
    · subst c; exact .inl ⟨s, rfl⟩
    · right
      have e : FloatKind.f64.format.order (Ieee.double.word s r) 0 = some (compare (sgn s (val r)) (sgn false 0)) := order_fin s false (is_val hr) is_zero
      have hv := val_pos (Nat.pos_of_ne_zero c)
      rw [e, Int.compare_eq_ite_lt]
      cases s
      · rw [if_neg (by rw [sgn_false, sgn_false]; omega), if_pos (by rw [sgn_false, sgn_false]; omega)]; rfl
      · rw [if_pos (by rw [sgn_true, sgn_false]; omega)]; rfl

set_option maxHeartbeats 1000000 in
theorem same_num (a : Nat) (ha : a < 2 ^ 64) (na : isNan a = false) (w : World) : Calls Try.prog 14 #[.float .f64 a, .float .f64 a] w fun e w' => e = .returned (.bool true) ∧ w = w' := by
  rcases zero_or ha na with ⟨s, rfl⟩ | hz
  · exact same_zero s w
  · have h1 := num_order ha na
    clear ha na
    go_enter Try.func14, Try.ntmps14
    go_wp2
    go_ret
    exact ⟨by rfl, rfl⟩

theorem same_any (a b : Nat) (ha : a < 2 ^ 64) (h : SameW b a) (w : World) : Calls Try.prog 14 #[.float .f64 a, .float .f64 b] w fun e w' => e = .returned (.bool true) ∧ w = w' := by
  obtain ⟨hb, ⟨na, nb⟩ | ⟨na, rfl⟩⟩ := h
  · exact same_nan a b ha hb na nb w
  · exact same_num b hb na w

set_option maxHeartbeats 1000000 in
theorem lawFloat (n : Int) (w : World) : Calls Try.prog 4 #[.int .i64 n] w fun e w' => e = .returned (.bool true) ∧ Below w.heap.size w w' := by
  go_enter Try.func4, Try.ntmps4
  go_wp2_with (first | (go_at_call 12; refine (specFloat n _).mono ?_; rintro e w' ⟨b, nq, rfl, hs, rfl⟩) | (go_at_call 13; refine (implFloat n _).mono ?_; rintro e w' ⟨rfl, rfl⟩) | (go_at_call 14; refine (same_any _ _ (wordOf_lt n) hs _).mono ?_; rintro e w' ⟨rfl, rfl⟩))
  go_ret
  refine ⟨rfl, ?_⟩
  exact ⟨rfl, rfl, rfl, Nat.le_refl _, fun _ _ => rfl⟩

end Go.Proofs.Ytpgefgbenojjfaa.Fw
