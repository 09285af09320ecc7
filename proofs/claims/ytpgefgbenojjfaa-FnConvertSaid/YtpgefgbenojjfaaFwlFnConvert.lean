/- The law FnConvert, walked. -/
import Derived.Test.YtpgefgbenojjfaaFwvFnConvert
import Derived.Test.YtpgefgbenojjfaaFwk
namespace Go.Proofs.Ytpgefgbenojjfaa.FdFnConvert
open Go.RowKit Go.Proofs.Ytpgefgbenojjfaa.QFnConvert Go.Proofs.YtpgefgbenojjfaaW.PrintWords Go.Proofs.YtpgefgbenojjfaaW.PrintLast Go.Proofs.Ytpgefgbenojjfaa.Aid Go.Proofs.Ytpgefgbenojjfaa.Fl Go.Proofs.Ytpgefgbenojjfaa.Fw Go.Proofs.Ytpgefgbenojjfaa.CurFnConvert

/-- What is known of a drawn word before its checks. -/
theorem cases_of (u : Nat) (hu : u < 2 ^ 64) : (isNan u = true ∧ (toI u == 0) = true) ∨
    (isNan u = false ∧ FloatKind.f64.format.order u u = some .eq ∧
      (((FloatKind.f64.format.order u 4890909195324358656 == some .gt || FloatKind.f64.format.order u 4890909195324358656 == some .eq) = true ∧ (toI u == 9223372036854775807) = true) ∨
       ((FloatKind.f64.format.order u 4890909195324358656 == some .gt || FloatKind.f64.format.order u 4890909195324358656 == some .eq) = false ∧
         (((FloatKind.f64.format.order u 14114281232179134464 == some .lt) = true ∧ (toI u == -9223372036854775808) = true) ∨
          ((FloatKind.f64.format.order u 14114281232179134464 == some .lt) = false ∧
            ∃ d, floatBits .sub .f64 u (floatOfInt .f64 (toI u)) = some d ∧ FloatKind.f64.format.order d 4607182418800017408 = some .lt ∧ FloatKind.f64.format.order d 13830554455654793216 = some .gt))))) := by
  by_cases hn : isNan u = true
  · refine .inl ⟨hn, ?_⟩
    unfold toI; rw [hn]; rfl
  · rw [Bool.not_eq_true] at hn
    refine .inr ⟨hn, order_self hu hn, ?_⟩
    by_cases h1 : (FloatKind.f64.format.order u 4890909195324358656 == some .gt || FloatKind.f64.format.order u 4890909195324358656 == some .eq) = true
    · refine .inl ⟨h1, ?_⟩
      unfold toI; rw [hn, h1]; rfl
    · rw [Bool.not_eq_true] at h1
      refine .inr ⟨h1, ?_⟩
      by_cases h2 : (FloatKind.f64.format.order u 14114281232179134464 == some .lt) = true
      · refine .inl ⟨h2, ?_⟩
        unfold toI; rw [hn, h1, h2]; rfl
      · rw [Bool.not_eq_true] at h2
        exact .inr ⟨h2, cut_diff hu hn h1 h2⟩

theorem range_of (n : Int) : (¬ -9007199254740992 ≤ n) ∨ (-9007199254740992 ≤ n ∧ ¬ n ≤ 9007199254740992) ∨ (-9007199254740992 ≤ n ∧ n ≤ 9007199254740992 ∧ toI (wordOf (bitsOf (floatOfInt .f64 n))) = n) := by
  by_cases c : -9007199254740992 ≤ n
  · by_cases d : n ≤ 9007199254740992
    · exact .inr (.inr ⟨c, d, there_back c d⟩)
    · exact .inr (.inl ⟨c, d⟩)
  · exact .inl c

set_option maxHeartbeats 4000000 in
/-- The second half of the law, from the drawn ints on. -/
theorem law_N (w0 : World) (A0 : Option Addr) (c0 : Nat) (s : List Int) (W : World) (hB : Below w0.heap.size w0 W) (hr0 : Kd.C (Kd.int .u8) w0 A0 s.length s) (hc0 : s.length ≤ c0) (hs : s.length ≤ 9223372036854775807) :
    Calls Try.prog 10 #[.slice A0 s.length c0] W fun e W' => e = .returned (.bool true) ∧ Below w0.heap.size w0 W' := by
  have H0 := Lib.hid hr0
  have HC := Lib.hid hc0
  have HS := Lib.hid hs
  have HB := Lib.hid hB
  clear hr0 hc0 hs hB
  go_enter Try.func10, Try.ntmps10
  go_wp2_with fail
  refine (drawInt25 w0 A0 c0 s _ HB.out H0.out HC.out HS.out).mono ?_
  clear HB
  rintro e w1 ⟨n, rfl, _, hB⟩
  have HB := Lib.hid hB
  clear hB
  go_wp2_with fail
  refine (drawNum26 w0 A0 c0 s _ HB.out H0.out HC.out HS.out).mono ?_
  clear HB H0 HC HS
  rintro e w2 ⟨b, rfl, _, hB⟩
  have HB := Lib.hid hB
  clear hB
  have HU := Lib.hid (cases_of (wordOf b) (wordOf_lt b))
  have h3 := there_back (n := 3) (by decide) (by decide)
  have h3b : (toI (wordOf (bitsOf (floatOfInt .f64 3))) == 3) = true := beq_iff_eq.2 h3
  clear h3
  rcases range_of n with c | ⟨c, d⟩ | ⟨c, d, hb⟩
  · go_wp2_with (first | (go_at_call 18; refine (implFromInt _ _).mono ?_; rintro e w' ⟨rfl, rfl⟩) | (go_at_call 20; refine (implToInt _ _).mono ?_; rintro e w' ⟨rfl, rfl⟩))
    rcases HU.out with ⟨hn, k0⟩ | ⟨hn, ho, hr⟩
    · clear HU
      refine (specFloat_N b _ hn).mono ?_
      rintro e w3 ⟨x, nq, rfl, hx, rfl⟩
      clear hn
      go_wp2_with (first | (go_at_call 18; refine (implFromInt _ _).mono ?_; rintro e w' ⟨rfl, rfl⟩) | (go_at_call 20; refine (implToInt _ _).mono ?_; rintro e w' ⟨rfl, rfl⟩))
      go_ret
      exact ⟨rfl, pw_below_drewN HB.out nq⟩
    · clear HU
      refine (specFloat_F b _ hn).mono ?_
      rintro e w3 ⟨nq, rfl, rfl⟩
      clear hn
      rcases hr with ⟨h1, k0⟩ | ⟨h1, ⟨h2, k0⟩ | ⟨h2, d, hd, d1, d2⟩⟩
      · go_wp2_with (first | (go_at_call 18; refine (implFromInt _ _).mono ?_; rintro e w' ⟨rfl, rfl⟩) | (go_at_call 20; refine (implToInt _ _).mono ?_; rintro e w' ⟨rfl, rfl⟩))
        go_ret
        exact ⟨rfl, pw_below_drewN HB.out nq⟩
      · go_wp2_with (first | (go_at_call 18; refine (implFromInt _ _).mono ?_; rintro e w' ⟨rfl, rfl⟩) | (go_at_call 20; refine (implToInt _ _).mono ?_; rintro e w' ⟨rfl, rfl⟩))
        go_ret
        exact ⟨rfl, pw_below_drewN HB.out nq⟩
      · have hsub := run_op .sub hd
        clear hd
        go_wp2_with (first | (go_at_call 18; refine (implFromInt _ _).mono ?_; rintro e w' ⟨rfl, rfl⟩) | (go_at_call 20; refine (implToInt _ _).mono ?_; rintro e w' ⟨rfl, rfl⟩))
        go_ret
        exact ⟨rfl, pw_below_drewN HB.out nq⟩
  · go_wp2_with (first | (go_at_call 18; refine (implFromInt _ _).mono ?_; rintro e w' ⟨rfl, rfl⟩) | (go_at_call 20; refine (implToInt _ _).mono ?_; rintro e w' ⟨rfl, rfl⟩))
    rcases HU.out with ⟨hn, k0⟩ | ⟨hn, ho, hr⟩
    · clear HU
      refine (specFloat_N b _ hn).mono ?_
      rintro e w3 ⟨x, nq, rfl, hx, rfl⟩
      clear hn
      go_wp2_with (first | (go_at_call 18; refine (implFromInt _ _).mono ?_; rintro e w' ⟨rfl, rfl⟩) | (go_at_call 20; refine (implToInt _ _).mono ?_; rintro e w' ⟨rfl, rfl⟩))
      go_ret
      exact ⟨rfl, pw_below_drewN HB.out nq⟩
    · clear HU
      refine (specFloat_F b _ hn).mono ?_
      rintro e w3 ⟨nq, rfl, rfl⟩
      clear hn
      rcases hr with ⟨h1, k0⟩ | ⟨h1, ⟨h2, k0⟩ | ⟨h2, d, hd, d1, d2⟩⟩
      · go_wp2_with (first | (go_at_call 18; refine (implFromInt _ _).mono ?_; rintro e w' ⟨rfl, rfl⟩) | (go_at_call 20; refine (implToInt _ _).mono ?_; rintro e w' ⟨rfl, rfl⟩))
        go_ret
        exact ⟨rfl, pw_below_drewN HB.out nq⟩
      · go_wp2_with (first | (go_at_call 18; refine (implFromInt _ _).mono ?_; rintro e w' ⟨rfl, rfl⟩) | (go_at_call 20; refine (implToInt _ _).mono ?_; rintro e w' ⟨rfl, rfl⟩))
        go_ret
        exact ⟨rfl, pw_below_drewN HB.out nq⟩
      · have hsub := run_op .sub hd
        clear hd
        go_wp2_with (first | (go_at_call 18; refine (implFromInt _ _).mono ?_; rintro e w' ⟨rfl, rfl⟩) | (go_at_call 20; refine (implToInt _ _).mono ?_; rintro e w' ⟨rfl, rfl⟩))
        go_ret
        exact ⟨rfl, pw_below_drewN HB.out nq⟩
  · have hb2 : (toI (wordOf (bitsOf (floatOfInt .f64 n))) != n) = false := bne_eq_false_iff_eq.2 hb
    clear hb
    go_wp2_with (first | (go_at_call 18; refine (implFromInt _ _).mono ?_; rintro e w' ⟨rfl, rfl⟩) | (go_at_call 20; refine (implToInt _ _).mono ?_; rintro e w' ⟨rfl, rfl⟩))
    rcases HU.out with ⟨hn, k0⟩ | ⟨hn, ho, hr⟩
    · clear HU
      refine (specFloat_N b _ hn).mono ?_
      rintro e w3 ⟨x, nq, rfl, hx, rfl⟩
      clear hn
      go_wp2_with (first | (go_at_call 18; refine (implFromInt _ _).mono ?_; rintro e w' ⟨rfl, rfl⟩) | (go_at_call 20; refine (implToInt _ _).mono ?_; rintro e w' ⟨rfl, rfl⟩))
      go_ret
      exact ⟨rfl, pw_below_drewN HB.out nq⟩
    · clear HU
      refine (specFloat_F b _ hn).mono ?_
      rintro e w3 ⟨nq, rfl, rfl⟩
      clear hn
      rcases hr with ⟨h1, k0⟩ | ⟨h1, ⟨h2, k0⟩ | ⟨h2, d, hd, d1, d2⟩⟩
      · go_wp2_with (first | (go_at_call 18; refine (implFromInt _ _).mono ?_; rintro e w' ⟨rfl, rfl⟩) | (go_at_call 20; refine (implToInt _ _).mono ?_; rintro e w' ⟨rfl, rfl⟩))
        go_ret
        exact ⟨rfl, pw_below_drewN HB.out nq⟩
      · go_wp2_with (first | (go_at_call 18; refine (implFromInt _ _).mono ?_; rintro e w' ⟨rfl, rfl⟩) | (go_at_call 20; refine (implToInt _ _).mono ?_; rintro e w' ⟨rfl, rfl⟩))
        go_ret
        exact ⟨rfl, pw_below_drewN HB.out nq⟩
      · have hsub := run_op .sub hd
        clear hd
        go_wp2_with (first | (go_at_call 18; refine (implFromInt _ _).mono ?_; rintro e w' ⟨rfl, rfl⟩) | (go_at_call 20; refine (implToInt _ _).mono ?_; rintro e w' ⟨rfl, rfl⟩))
        go_ret
        exact ⟨rfl, pw_below_drewN HB.out nq⟩
end Go.Proofs.Ytpgefgbenojjfaa.FdFnConvert
