/- Contracts of the three small drawing functions of a law, by number. -/
import Derived.Test.YtpgefgbenojjfaaFwdFnConvert
namespace Go.Proofs.Ytpgefgbenojjfaa.FdFnConvert
open Go.RowKit Go.Proofs.Ytpgefgbenojjfaa.QFnConvert Go.Proofs.YtpgefgbenojjfaaW.PrintWords Go.Proofs.YtpgefgbenojjfaaW.PrintLast Go.Proofs.Ytpgefgbenojjfaa.Aid Go.Proofs.Ytpgefgbenojjfaa.Fl Go.Proofs.Ytpgefgbenojjfaa.Fw Go.Proofs.Ytpgefgbenojjfaa.CurFnConvert

theorem drawNum24 (w0 : World) (A0 : Option Addr) (c0 : Nat) (s : List Int) (W : World) (hB : Below w0.heap.size w0 W) (hr0 : Kd.C (Kd.int .u8) w0 A0 s.length s) (hc0 : s.length ≤ c0) (hs : s.length ≤ 9223372036854775807) :
    Calls Try.prog 24 #[.slice A0 s.length c0] W fun e W' => ∃ n, e = .returned (.int .i64 n) ∧ InR n ∧ Below w0.heap.size w0 W' := by
  go_enter Try.func24, Try.ntmps24
  go_wp2_with fail
  refine (new_c w0 A0 c0 s _ hB hr0 hc0 hs).mono ?_
  rintro e w1 ⟨g, rfl, hC⟩
  go_wp2_with fail
  refine (bits_c w0 g s _ hC).mono ?_
  rintro e w2 ⟨n, rfl, hn, hC⟩
  go_wp2
  go_ret
  exact ⟨n, rfl, hn, hC.below⟩
theorem drawNum26 (w0 : World) (A0 : Option Addr) (c0 : Nat) (s : List Int) (W : World) (hB : Below w0.heap.size w0 W) (hr0 : Kd.C (Kd.int .u8) w0 A0 s.length s) (hc0 : s.length ≤ c0) (hs : s.length ≤ 9223372036854775807) :
    Calls Try.prog 26 #[.slice A0 s.length c0] W fun e W' => ∃ n, e = .returned (.int .i64 n) ∧ InR n ∧ Below w0.heap.size w0 W' := by
  go_enter Try.func26, Try.ntmps26
  go_wp2_with fail
  refine (new_c w0 A0 c0 s _ hB hr0 hc0 hs).mono ?_
  rintro e w1 ⟨g, rfl, hC⟩
  go_wp2_with fail
  refine (bits_c w0 g s _ hC).mono ?_
  rintro e w2 ⟨n, rfl, hn, hC⟩
  go_wp2
  go_ret
  exact ⟨n, rfl, hn, hC.below⟩
theorem drawInt25 (w0 : World) (A0 : Option Addr) (c0 : Nat) (s : List Int) (W : World) (hB : Below w0.heap.size w0 W) (hr0 : Kd.C (Kd.int .u8) w0 A0 s.length s) (hc0 : s.length ≤ c0) (hs : s.length ≤ 9223372036854775807) :
    Calls Try.prog 25 #[.slice A0 s.length c0] W fun e W' => ∃ n, e = .returned (.int .i64 n) ∧ InR n ∧ Below w0.heap.size w0 W' := by
  go_enter Try.func25, Try.ntmps25
  go_wp2_with fail
  refine (new_c w0 A0 c0 s _ hB hr0 hc0 hs).mono ?_
  rintro e w1 ⟨g, rfl, hC⟩
  go_wp2_with fail
  refine (int_c w0 g s _ hC).mono ?_
  rintro e w2 ⟨n, rfl, hn, hC⟩
  go_wp2
  go_ret
  exact ⟨n, rfl, hn, hC.below⟩
theorem drawBits23 (w0 : World) (A0 : Option Addr) (c0 : Nat) (s : List Int) (W : World) (hB : Below w0.heap.size w0 W) (hr0 : Kd.C (Kd.int .u8) w0 A0 s.length s) (hc0 : s.length ≤ c0) (hs : s.length ≤ 9223372036854775807) :
    Calls Try.prog 23 #[.slice A0 s.length c0] W fun e W' => ∃ b, e = .returned (.float .f64 b) ∧ b < 2 ^ 64 ∧ Below w0.heap.size w0 W' := by
  go_enter Try.func23, Try.ntmps23
  go_wp2_with fail
  refine (new_c w0 A0 c0 s _ hB hr0 hc0 hs).mono ?_
  rintro e w1 ⟨g, rfl, hC⟩
  go_wp2_with fail
  refine (bits_c w0 g s _ hC).mono ?_
  rintro e w2 ⟨n, rfl, hn, hC⟩
  go_wp2_with fail
  refine (specFloat n _).mono ?_
  rintro e w3 ⟨b, nq, rfl, hb, rfl⟩
  go_wp2
  go_ret
  exact ⟨b, rfl, hb.1, pw_below_drewN hC.below nq⟩

theorem wordOf_bitsOf {b : Nat} (hb : b < 2 ^ 64) (hn : isNan b = false) : wordOf (bitsOf b) = b := by
  unfold bitsOf; rw [hn, if_neg (by decide)]
  unfold wordOf; rw [wrap_u64]; unfold wrap64; omega
theorem bitsOf_wordOf {n : Int} (hn : InR n) (h : isNan (wordOf n) = false) : bitsOf (wordOf n) = n := by
  unfold bitsOf; rw [h, if_neg (by decide)]
  unfold InR at hn
  unfold wordOf wrap64; rw [wrap_u64]; omega
theorem wordOf_nan {b : Nat} (hn : isNan b = true) : wordOf (bitsOf b) = 9221120237041090561 := by
  unfold bitsOf; rw [hn, if_pos rfl]; rfl
theorem bits_twice (b : Nat) (hb : b < 2 ^ 64) : bitsOf (wordOf (bitsOf b)) = bitsOf b := by
  cases h : isNan b
  · rw [wordOf_bitsOf hb h]
  · rw [wordOf_nan h]
    have e : bitsOf b = 9221120237041090561 := by unfold bitsOf; rw [h, if_pos rfl]
    rw [e]; decide

end Go.Proofs.Ytpgefgbenojjfaa.FdFnConvert
