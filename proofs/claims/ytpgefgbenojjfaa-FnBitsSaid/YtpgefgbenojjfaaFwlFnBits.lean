/- The law FnBits, walked. -/
import Derived.Test.YtpgefgbenojjfaaFwvFnBits
namespace Go.Proofs.Ytpgefgbenojjfaa.FdFnBits
open Go.RowKit Go.Proofs.Ytpgefgbenojjfaa.QFnBits Go.Proofs.YtpgefgbenojjfaaW.PrintWords Go.Proofs.YtpgefgbenojjfaaW.PrintLast Go.Proofs.Ytpgefgbenojjfaa.Aid Go.Proofs.Ytpgefgbenojjfaa.Fl Go.Proofs.Ytpgefgbenojjfaa.Fw Go.Proofs.Ytpgefgbenojjfaa.CurFnBits

theorem order_b (b : Nat) (hb : b < 2 ^ 64) : (isNan b = true ∧ FloatKind.f64.format.order b b = none ∧ FloatKind.f64.format.order (wordOf (bitsOf b)) (wordOf (bitsOf b)) = none) ∨ (isNan b = false ∧ FloatKind.f64.format.order b b = some .eq ∧ wordOf (bitsOf b) = b) := by
  cases h : isNan b
  · exact .inr ⟨rfl, order_self hb h, wordOf_bitsOf hb h⟩
  · refine .inl ⟨rfl, order_nan_left hb h, ?_⟩
    rw [wordOf_nan h]; decide

set_option maxHeartbeats 4000000 in
theorem law_N (w0 : World) (A0 : Option Addr) (c0 : Nat) (s : List Int) (W : World) (hB : Below w0.heap.size w0 W) (hr0 : Kd.C (Kd.int .u8) w0 A0 s.length s) (hc0 : s.length ≤ c0) (hs : s.length ≤ 9223372036854775807) :
    Calls Try.prog 9 #[.slice A0 s.length c0] W fun e W' => e = .returned (.bool true) ∧ Below w0.heap.size w0 W' := by
  have H0 := Lib.hid hr0
  have HC := Lib.hid hc0
  have HS := Lib.hid hs
  have HB := Lib.hid hB
  clear hr0 hc0 hs hB
  go_enter Try.func9, Try.ntmps9
  go_wp2_with fail
  refine (drawBits23 w0 A0 c0 s _ HB.out H0.out HC.out HS.out).mono ?_
  clear HB
  rintro e w1 ⟨b, rfl, hb, hB⟩
  have HB := Lib.hid hB
  clear hB
  go_wp2_with fail
  refine (drawNum24 w0 A0 c0 s _ HB.out H0.out HC.out HS.out).mono ?_
  clear HB H0 HC HS
  rintro e w2 ⟨n, rfl, hn, hB⟩
  have HB := Lib.hid hB
  have HN := Lib.hid hn
  have Hb := Lib.hid hb
  clear hB
  have k1 := bits_twice b hb
  have k2 := bits_twice (wordOf n) (wordOf_lt n)
  have k3 : bitsOf 4607182418800017408 = 4607182418800017408 := by kernel_rfl
  have k4 : bitsOf 13835058055282163712 = -4611686018427387904 := by kernel_rfl
  have k5 : (bitsOf (wordOf n) = n ∧ (bitsOf (wordOf n) == n) = true) ∨ ((bitsOf (wordOf n) == n) = false ∧ FloatKind.f64.format.order (wordOf n) (wordOf n) = none) := by
    by_cases c : bitsOf (wordOf n) = n
    · exact .inl ⟨c, beq_iff_eq.2 c⟩
    · refine .inr ⟨beq_eq_false_iff_ne.2 c, ?_⟩
      cases h : isNan (wordOf n)
      · exact absurd (bitsOf_wordOf hn h) c
      · exact order_nan_left (wordOf_lt n) h
  have k6 := order_b b hb
  clear hn hb
  rcases k6 with ⟨_, k7, k8⟩ | ⟨_, k7, k8⟩
  · rcases k5 with ⟨_, k9⟩ | ⟨k9, ka⟩
    · go_wp2_with (first | (go_at_call 13; refine (implFloat _ _).mono ?_; rintro e w' ⟨rfl, rfl⟩) | (go_at_call 16; refine (implBits _ (by first | exact Hb.out | exact wordOf_lt _ | decide) _).mono ?_; rintro e w' ⟨rfl, rfl⟩))
      go_ret
      exact ⟨rfl, HB.out⟩
    · go_wp2_with (first | (go_at_call 13; refine (implFloat _ _).mono ?_; rintro e w' ⟨rfl, rfl⟩) | (go_at_call 16; refine (implBits _ (by first | exact Hb.out | exact wordOf_lt _ | decide) _).mono ?_; rintro e w' ⟨rfl, rfl⟩))
      go_ret
      exact ⟨rfl, HB.out⟩
  · rcases k5 with ⟨_, k9⟩ | ⟨k9, ka⟩
    · go_wp2_with (first | (go_at_call 13; refine (implFloat _ _).mono ?_; rintro e w' ⟨rfl, rfl⟩) | (go_at_call 16; refine (implBits _ (by first | exact Hb.out | exact wordOf_lt _ | decide) _).mono ?_; rintro e w' ⟨rfl, rfl⟩))
      go_ret
      exact ⟨rfl, HB.out⟩
    · go_wp2_with (first | (go_at_call 13; refine (implFloat _ _).mono ?_; rintro e w' ⟨rfl, rfl⟩) | (go_at_call 16; refine (implBits _ (by first | exact Hb.out | exact wordOf_lt _ | decide) _).mono ?_; rintro e w' ⟨rfl, rfl⟩))
      go_ret
      exact ⟨rfl, HB.out⟩

end Go.Proofs.Ytpgefgbenojjfaa.FdFnBits
